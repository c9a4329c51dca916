/- bastionlaw10.speaks. Conditions: none. -/
import Derived.Test.YtbkfhieadnfndaaNocN
import Derived.Test.YtbkfhieadnfndaaNocY
set_option linter.unusedVariables false
set_option linter.unusedSimpArgs false
namespace Go.Proofs.Ytbkfhieadnfndaa
open Go Go.RowKit Go.Sx Go.Bst
set_option maxRecDepth 100000
set_option maxHeartbeats 4000000
def cSpk : Mc := .seq (.reg [⟨some 0, .assign (.const (.bool false)), 4, none, .no⟩]) (.seq (.reg [⟨some 6, .call { callee := .value (.func 37), args := ⟨[.const (.int .i64 2), .const (.int .i64 1)]⟩, argTypes := ⟨[3, 3]⟩ }, 78, none, .one⟩, ⟨some 1, .assign (.tmp 6), 78, none, .no⟩]) (.seq (.reg [⟨some 7, .move (.tmp 1), 78, none, .no⟩, ⟨some 8, .build 31 ⟨[(0, .const (.int .i64 1)), (2, .const (.int .i64 1))]⟩, 31, none, .lay [.int .i64 0, .int .i64 0, .int .i64 0, .int .i64 0, .bool false, .bool false, .int .u8 0, .int .u8 0, .int .u8 0, .int .u8 0, .int .u8 0, .int .u8 0, .int .u8 0, .int .u8 0, .int .u8 0, .int .u8 0, .int .u8 0, .int .u8 0, .int .u8 0, .int .u8 0, .int .u8 0, .int .u8 0, .int .u8 0, .int .u8 0, .int .u8 0, .int .u8 0, .int .u8 0, .int .u8 0, .int .u8 0, .int .u8 0, .int .u8 0, .int .u8 0, .int .u8 0, .int .u8 0, .int .u8 0, .int .u8 0, .int .u8 0, .int .u8 0] [(0, 1), (1, 1), (2, 1), (3, 1), (4, 1), (5, 1), (6, 32)]⟩, ⟨some 9, .call { callee := .value (.func 38), args := ⟨[.tmp 7, .const (.int .i64 0), .tmp 8]⟩, argTypes := ⟨[78, 3, 31]⟩ }, 26, none, .one⟩, ⟨some 2, .assign (.tmp 9), 26, none, .no⟩]) (.seq (.reg [⟨some 10, .move (.tmp 1), 78, none, .no⟩, ⟨some 11, .build 31 ⟨[(0, .const (.int .i64 2)), (2, .const (.int .i64 1))]⟩, 31, none, .lay [.int .i64 0, .int .i64 0, .int .i64 0, .int .i64 0, .bool false, .bool false, .int .u8 0, .int .u8 0, .int .u8 0, .int .u8 0, .int .u8 0, .int .u8 0, .int .u8 0, .int .u8 0, .int .u8 0, .int .u8 0, .int .u8 0, .int .u8 0, .int .u8 0, .int .u8 0, .int .u8 0, .int .u8 0, .int .u8 0, .int .u8 0, .int .u8 0, .int .u8 0, .int .u8 0, .int .u8 0, .int .u8 0, .int .u8 0, .int .u8 0, .int .u8 0, .int .u8 0, .int .u8 0, .int .u8 0, .int .u8 0, .int .u8 0, .int .u8 0] [(0, 1), (1, 1), (2, 1), (3, 1), (4, 1), (5, 1), (6, 32)]⟩, ⟨some 12, .call { callee := .value (.func 38), args := ⟨[.tmp 10, .const (.int .i64 2), .tmp 11]⟩, argTypes := ⟨[78, 3, 31]⟩ }, 26, none, .one⟩, ⟨some 3, .assign (.tmp 12), 26, none, .no⟩]) (.seq (.reg [⟨some 14, .move (.tmp 1), 78, none, .no⟩, ⟨some 15, .build 82 ⟨[(0, .const (.int .i64 2)), (2, .const (.int .i64 1))]⟩, 82, none, .lay [.int .i64 0, .int .i64 0, .int .i64 0] [(0, 1), (1, 1), (2, 1)]⟩, ⟨some 16, .call { callee := .value (.func 39), args := ⟨[.tmp 14, .tmp 15]⟩, argTypes := ⟨[78, 82]⟩ }, 33, none, .one⟩, ⟨some 13, .move (.tmp 16), 33, none, .no⟩, ⟨some 17, .extract (.tmp 13) 0, 31, none, .no⟩, ⟨some 18, .extract (.tmp 13) 1, 26, none, .no⟩, ⟨some 4, .alloc 31, 0, none, .cells [.int .i64 0, .int .i64 0, .int .i64 0, .int .i64 0, .bool false, .bool false, .int .u8 0, .int .u8 0, .int .u8 0, .int .u8 0, .int .u8 0, .int .u8 0, .int .u8 0, .int .u8 0, .int .u8 0, .int .u8 0, .int .u8 0, .int .u8 0, .int .u8 0, .int .u8 0, .int .u8 0, .int .u8 0, .int .u8 0, .int .u8 0, .int .u8 0, .int .u8 0, .int .u8 0, .int .u8 0, .int .u8 0, .int .u8 0, .int .u8 0, .int .u8 0, .int .u8 0, .int .u8 0, .int .u8 0, .int .u8 0, .int .u8 0, .int .u8 0] true⟩, ⟨none, .store 31 (.tmp 4) (.tmp 17), 0, none, .agg 38⟩, ⟨some 5, .assign (.tmp 18), 26, none, .no⟩]) (.seq (.reg [⟨some 19, .move (.tmp 2), 26, none, .no⟩, ⟨some 20, .binOp .eql 26 (.tmp 19) (.const (.int .i64 0)) 26, 4, none, .no⟩, ⟨some 21, .move (.tmp 20), 4, none, .no⟩, ⟨some 22, .move (.tmp 3), 26, some (21, true), .no⟩, ⟨some 23, .binOp .eql 26 (.tmp 22) (.const (.int .i64 0)) 26, 4, some (21, true), .no⟩, ⟨some 24, .pick (.tmp 21) (.tmp 23) (.const (.bool false)), 4, none, .no⟩, ⟨some 25, .move (.tmp 24), 4, none, .no⟩, ⟨some 26, .move (.tmp 5), 26, some (25, true), .no⟩, ⟨some 27, .binOp .eql 26 (.tmp 26) (.const (.int .i64 0)) 26, 4, some (25, true), .no⟩, ⟨some 28, .pick (.tmp 25) (.tmp 27) (.const (.bool false)), 4, none, .no⟩, ⟨some 29, .move (.tmp 28), 4, none, .no⟩, ⟨some 30, .fieldAddr 31 (.tmp 4) 0, 0, some (29, true), .off 0⟩, ⟨some 31, .load 3 (.tmp 30), 3, some (29, true), .one⟩, ⟨some 32, .binOp .eql 3 (.tmp 31) (.const (.int .i64 2)) 3, 4, some (29, true), .no⟩, ⟨some 33, .pick (.tmp 29) (.tmp 32) (.const (.bool false)), 4, none, .no⟩, ⟨some 34, .move (.tmp 33), 4, none, .no⟩, ⟨some 35, .move (.tmp 1), 78, some (34, true), .no⟩, ⟨some 36, .call { callee := .value (.func 49), args := ⟨[.tmp 35]⟩, argTypes := ⟨[78]⟩ }, 77, some (34, true), .one⟩, ⟨some 37, .call { callee := .builtin .len, args := ⟨[.tmp 36]⟩, argTypes := ⟨[77]⟩ }, 3, some (34, true), .sl 82 0⟩, ⟨some 38, .binOp .eql 3 (.tmp 37) (.const (.int .i64 1)) 3, 4, some (34, true), .no⟩, ⟨some 39, .pick (.tmp 34) (.tmp 38) (.const (.bool false)), 4, none, .no⟩, ⟨some 0, .assign (.tmp 39), 4, none, .no⟩]) .ret)))))
theorem cSpk_ok : mcOf Try.prog Try.f36.ntmps (Try.f36.body.getD .skip) = cSpk := by kernel_rfl
theorem cSpk_res : resOf Try.prog Try.f36.results.toList = some [.tmp 0] := by kernel_rfl
def msZ (k t : Int) : Ms := ⟨k, 0, t, 0, false, false, List.replicate 32 (.int .u8 0)⟩
theorem msZ_ok {k t : Int} (hk : SK.fits (.int .i64) (.int .i64 k)) (ht : SK.fits (.int .i64) (.int .i64 t)) : (msZ k t).Ok := by
  simp only [SK.fits, IntKind.min, IntKind.max, IntKind.signed, IntKind.bits] at hk ht
  simp [Ms.Ok, Ms.v, Ms.cs, msZ, Msg, msgK, fitAll, SK.fits, List.replicate, IntKind.min, IntKind.max, IntKind.signed, IntKind.bits]
  simp at hk ht
  omega
theorem fit_small {k : Int} (h : 0 ≤ k ∧ k ≤ 1000) : SK.fits (.int .i64) (.int .i64 k) := by simp [SK.fits, IntKind.min, IntKind.max, IntKind.signed, IntKind.bits]; omega
theorem send_ok {n room : Nat} {st : Lk → List (Array Value)} {l : Lk} (h : thereB n l = true) (hr : (st l).length < room) (m : Array Value) : sendE n room st l = 0 ∧ sendS n room st l m = setQ st l (st l ++ [m]) := by
  have e : sendE n room st l = 0 := by unfold sendE; rw [h]; simp [hr]
  exact ⟨e, by unfold sendS; rw [if_pos e]⟩
def spA : Lk → List (Array Value) := setQ (fun _ => []) (0, 0, 1) [(msZ 1 1).v]
def spB : Lk → List (Array Value) := setQ spA (2, 0, 1) [(msZ 2 1).v]
def spC : Lk → List (Array Value) := setQ spB (2, 0, 1) []
theorem spA_2 : spA (2, 0, 1) = [] := setQ_ne _ _ (by decide)
theorem spB_2 : spB (2, 0, 1) = [(msZ 2 1).v] := setQ_same _ _ _
theorem spC_len : (linksF 2 spC).length = 1 := by decide +kernel
section
variable {E : Env} {w : World} {F : List HP}
theorem noc_speaks (hw : Sat E w F) : Calls Try.prog 36 #[] w fun e w' => e = .returned (.bool true) ∧ Sat E w' F := by
  refine calls_ok hmo Try.func36 rfl cSpk_ok cSpk_res [] [] _ hw (by exact Nat.le_of_ble_eq_true rfl) (by simp [argsOk, isV]) ?_
  clear hw
  refine run_ok 4000 _ _ _ _ ?_; simp only [cSpk, sx, Nat.reduceBEq, Nat.reduceAdd, Nat.reduceLeDiff, Nat.reduceMul, Int.toNat_natCast]
  refine call_go fun w hs => ?_
  refine (net_new hs).mono ?_
  rintro e w ⟨b, rfl, hw⟩
  refine ⟨.v (.pointer (some ⟨b, 0, none⟩)), _, Net b 2 1 (fun _ => []) :: F, rfl, rfl, hw, trivial, ?_⟩
  clear hw hs w
  refine run_ok 4000 _ _ _ _ ?_; simp only [sx, Nat.reduceBEq, Nat.reduceAdd, Nat.reduceLeDiff, Nat.reduceMul, Int.toNat_natCast]
  refine call_go fun w hs => ?_
  have e1 := send_ok (n := 2) (room := 1) (st := fun _ => []) (l := (0, 0, 1)) (by decide) (by decide) (msZ 1 1).v
  have h1 := net_send (m := msZ 1 1) (net := 0) (msZ_ok (fit_small (by omega)) (fit_small (by omega))) (fit_small (by omega)) hs
  rw [show (0, (msZ 1 1).f, (msZ 1 1).t) = ((0, 0, 1) : Lk) from rfl, e1.1, e1.2] at h1
  refine h1.mono ?_
  rintro e w ⟨rfl, hw⟩
  refine ⟨.v (.int .i64 0), _, Net b 2 1 spA :: F, rfl, rfl, hw, trivial, ?_⟩
  clear hw hs w e1 h1
  refine run_ok 4000 _ _ _ _ ?_; simp only [sx, Nat.reduceBEq, Nat.reduceAdd, Nat.reduceLeDiff, Nat.reduceMul, Int.toNat_natCast]
  refine call_go fun w hs => ?_
  have e1 := send_ok (n := 2) (room := 1) (st := spA) (l := (2, 0, 1)) (by decide) (by rw [spA_2]; decide) (msZ 2 1).v
  rw [spA_2] at e1
  have h1 := net_send (m := msZ 2 1) (net := 2) (msZ_ok (fit_small (by omega)) (fit_small (by omega))) (fit_small (by omega)) hs
  rw [show (2, (msZ 2 1).f, (msZ 2 1).t) = ((2, 0, 1) : Lk) from rfl, e1.1, e1.2] at h1
  refine h1.mono ?_
  rintro e w ⟨rfl, hw⟩
  refine ⟨.v (.int .i64 0), _, Net b 2 1 spB :: F, rfl, rfl, hw, trivial, ?_⟩
  clear hw hs w e1 h1
  refine run_ok 4000 _ _ _ _ ?_; simp only [sx, Nat.reduceBEq, Nat.reduceAdd, Nat.reduceLeDiff, Nat.reduceMul, Int.toNat_natCast]
  refine call_go fun w hs => ?_
  have h1 := net_take (l := (2, 0, 1)) (fit_there (n := 2) (by omega) (by decide)) hs
  have ht : thereB 2 (2, 0, 1) = true := by decide
  have e1 : takeM 2 spB (2, 0, 1) = (msZ 2 1).v := by unfold takeM; rw [ht, spB_2]; rfl
  have e2 : takeE 2 spB (2, 0, 1) = 0 := by unfold takeE; rw [ht, spB_2]; rfl
  have e3 : takeS 2 spB (2, 0, 1) = spC := by unfold takeS; rw [ht, spB_2]; rfl
  rw [e1, e2, e3] at h1
  refine h1.mono ?_
  rintro e w ⟨rfl, hw⟩
  refine ⟨.t2 (.a (msZ 2 1).cs) (.v (.int .i64 0)), _, Net b 2 1 spC :: F, rfl, rfl, hw, trivial, ?_⟩
  clear hw hs w h1
  simp only [msZ, Ms.cs, List.replicate]
  refine run_ok 4000 _ _ _ _ ?_; simp only [Bool.or_false, Bool.or_self, cond_false, sx, Nat.reduceBEq, Nat.reduceAdd, Nat.reduceLeDiff, Nat.reduceMul, Int.toNat_natCast]
  intro b2
  refine ⟨fun _ => ?_, fun h => by simp at h⟩
  refine run_ok 4000 _ _ _ _ ?_; simp only [sx, Nat.reduceBEq, Nat.reduceAdd, Nat.reduceLeDiff, Nat.reduceMul, Int.toNat_natCast]
  refine ⟨rfl, call_go fun w hs => ?_⟩
  have h1 := net_links (n := 2) (by omega) (hs.front 1 rfl)
  rw [spC_len] at h1
  refine h1.mono ?_
  rintro e w ⟨v, rfl, hw⟩
  obtain ⟨A, cap, rfl, _, _⟩ := Row_val hw 0 rfl
  refine ⟨.v (.slice A 1 cap), _, Net b 2 1 spC :: F, rfl, rfl, (Sat.gets hw (by repeat (first | exact Gets.nil | exact Gets.refl _ | refine Gets.get 0 rfl ?_ | refine Gets.get 1 rfl ?_ | refine Gets.get 2 rfl ?_ | refine Gets.get 3 rfl ?_ | refine Gets.get 4 rfl ?_ | refine Gets.get 5 rfl ?_ | refine Gets.get 6 rfl ?_ | refine Gets.get 7 rfl ?_ | refine Gets.get 8 rfl ?_ | refine Gets.get 9 rfl ?_ | refine Gets.drop ?_))), trivial, ?_⟩
  clear hw hs w h1
  refine run_ok 4000 _ _ _ _ ?_; simp only [sx, Nat.reduceBEq, Nat.reduceAdd, Nat.reduceLeDiff, Nat.reduceMul, Int.toNat_natCast]
  intro w hs
  exact ⟨by simp, hs.tail.tail⟩
end
end Go.Proofs.Ytbkfhieadnfndaa
