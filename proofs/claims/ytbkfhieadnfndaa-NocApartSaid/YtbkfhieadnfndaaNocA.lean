/- The law NocApart. Conditions: none. -/
import Derived.Test.YtbkfhieadnfndaaNocL
import Derived.Test.YtbkfhieadnfndaaSxY
set_option linter.unusedVariables false
set_option linter.unusedSimpArgs false
namespace Go.Proofs.Ytbkfhieadnfndaa
open Go Go.RowKit Go.Sx Go.Bst
set_option maxRecDepth 100000
set_option maxHeartbeats 4000000
def cAp : Mc := .seq (.reg [⟨some 8, .box 82 (.tmp 3), 0, none, .agg 3⟩, ⟨some 9, .box 82 (.tmp 4), 0, none, .agg 3⟩, ⟨some 10, .assign (.const (.bool false)), 4, none, .no⟩]) (.seq (.seq (.reg [⟨some 18, .call { callee := .value (.func 36), args := ⟨[]⟩, argTypes := ⟨[]⟩ }, 4, none, .one⟩, ⟨some 19, .unOp .not 4 (.tmp 18), 4, none, .no⟩]) (.cond (.tmp 19) (.seq (.reg [⟨some 10, .assign (.const (.bool false)), 4, none, .no⟩]) .ret) .skip)) (.seq (.seq (.reg [⟨some 20, .move (.tmp 2), 22, none, .no⟩, ⟨some 21, .call { callee := .builtin .len, args := ⟨[.tmp 20]⟩, argTypes := ⟨[22]⟩ }, 3, none, .sl 31 0⟩, ⟨some 22, .binOp .gtr 3 (.tmp 21) (.const (.int .i64 60)) 3, 4, none, .no⟩]) (.cond (.tmp 22) (.seq (.reg [⟨some 10, .assign (.const (.bool true)), 4, none, .no⟩]) .ret) .skip)) (.seq (.reg [⟨some 23, .move (.tmp 0), 3, none, .no⟩, ⟨some 24, .move (.tmp 1), 3, none, .no⟩, ⟨some 25, .call { callee := .value (.func 37), args := ⟨[.tmp 23, .tmp 24]⟩, argTypes := ⟨[3, 3]⟩ }, 78, none, .one⟩, ⟨some 11, .assign (.tmp 25), 78, none, .no⟩]) (.seq (.seq (.reg [⟨some 26, .move (.tmp 2), 22, none, .no⟩, ⟨some 27, .call { callee := .builtin .len, args := ⟨[.tmp 26]⟩, argTypes := ⟨[22]⟩ }, 3, none, .sl 31 0⟩, ⟨some 28, .move (.const (.int .i64 0)), 3, none, .no⟩]) (.block 0 (.loop (.seq (.reg [⟨some 29, .binOp .lss 3 (.tmp 28) (.tmp 27) 3, 0, none, .no⟩]) (.seq (.cond (.tmp 29) .skip (.exit 0)) (.seq (.block 1 (.seq (.reg [⟨some 30, .indexAddr 22 (.tmp 26) (.tmp 28), 0, none, .sl 31 38⟩, ⟨some 31, .load 31 (.tmp 30), 31, none, .agg 38⟩, ⟨some 13, .alloc 31, 0, none, .cells [.int .i64 0, .int .i64 0, .int .i64 0, .int .i64 0, .bool false, .bool false, .int .u8 0, .int .u8 0, .int .u8 0, .int .u8 0, .int .u8 0, .int .u8 0, .int .u8 0, .int .u8 0, .int .u8 0, .int .u8 0, .int .u8 0, .int .u8 0, .int .u8 0, .int .u8 0, .int .u8 0, .int .u8 0, .int .u8 0, .int .u8 0, .int .u8 0, .int .u8 0, .int .u8 0, .int .u8 0, .int .u8 0, .int .u8 0, .int .u8 0, .int .u8 0, .int .u8 0, .int .u8 0, .int .u8 0, .int .u8 0, .int .u8 0, .int .u8 0] true⟩, ⟨none, .store 31 (.tmp 13) (.tmp 31), 0, none, .agg 38⟩]) (.reg [⟨some 32, .move (.tmp 11), 78, none, .no⟩, ⟨some 33, .fieldAddr 82 (.tmp 9) 0, 0, none, .off 0⟩, ⟨some 34, .load 3 (.tmp 33), 3, none, .one⟩, ⟨some 35, .load 31 (.tmp 13), 31, none, .agg 38⟩, ⟨some 36, .call { callee := .value (.func 38), args := ⟨[.tmp 32, .tmp 34, .tmp 35]⟩, argTypes := ⟨[78, 3, 31]⟩ }, 26, none, .one⟩]))) (.reg [⟨some 37, .binOp .add 3 (.tmp 28) (.const (.int .i64 1)) 3, 3, none, .no⟩, ⟨some 28, .move (.tmp 37), 3, none, .no⟩]))))))) (.seq (.dreg [(.P, ⟨some 38, .move (.tmp 11), 78, none, .no⟩), (.R, ⟨some 39, .load 82 (.tmp 9), 82, none, .agg 3⟩), (.P, ⟨some 41, .move (.tmp 11), 78, none, .no⟩), (.R, ⟨some 42, .load 82 (.tmp 9), 82, none, .agg 3⟩), (.D, ⟨some 40, .call { callee := .value (.func 41), args := ⟨[.tmp 38, .tmp 39]⟩, argTypes := ⟨[78, 82]⟩ }, 22, none, .one⟩), (.L, ⟨some 43, .call { callee := .value (.func 42), args := ⟨[.tmp 41, .tmp 42]⟩, argTypes := ⟨[78, 82]⟩ }, 3, none, .one⟩), (.P, ⟨some 14, .assign (.tmp 40), 22, none, .no⟩), (.P, ⟨some 15, .assign (.tmp 43), 3, none, .no⟩)] 1 false) (.seq (.reg [⟨some 44, .fieldAddr 82 (.tmp 8) 1, 0, none, .off 1⟩, ⟨some 45, .load 3 (.tmp 44), 3, none, .one⟩, ⟨some 46, .fieldAddr 82 (.tmp 8) 2, 0, none, .off 2⟩, ⟨some 47, .load 3 (.tmp 46), 3, none, .one⟩, ⟨some 48, .build 31 ⟨[(0, .const (.int .i64 1)), (1, .tmp 45), (2, .tmp 47)]⟩, 31, none, .lay [.int .i64 0, .int .i64 0, .int .i64 0, .int .i64 0, .bool false, .bool false, .int .u8 0, .int .u8 0, .int .u8 0, .int .u8 0, .int .u8 0, .int .u8 0, .int .u8 0, .int .u8 0, .int .u8 0, .int .u8 0, .int .u8 0, .int .u8 0, .int .u8 0, .int .u8 0, .int .u8 0, .int .u8 0, .int .u8 0, .int .u8 0, .int .u8 0, .int .u8 0, .int .u8 0, .int .u8 0, .int .u8 0, .int .u8 0, .int .u8 0, .int .u8 0, .int .u8 0, .int .u8 0, .int .u8 0, .int .u8 0, .int .u8 0, .int .u8 0] [(0, 1), (1, 1), (2, 1), (3, 1), (4, 1), (5, 1), (6, 32)]⟩, ⟨some 16, .alloc 31, 0, none, .cells [.int .i64 0, .int .i64 0, .int .i64 0, .int .i64 0, .bool false, .bool false, .int .u8 0, .int .u8 0, .int .u8 0, .int .u8 0, .int .u8 0, .int .u8 0, .int .u8 0, .int .u8 0, .int .u8 0, .int .u8 0, .int .u8 0, .int .u8 0, .int .u8 0, .int .u8 0, .int .u8 0, .int .u8 0, .int .u8 0, .int .u8 0, .int .u8 0, .int .u8 0, .int .u8 0, .int .u8 0, .int .u8 0, .int .u8 0, .int .u8 0, .int .u8 0, .int .u8 0, .int .u8 0, .int .u8 0, .int .u8 0, .int .u8 0, .int .u8 0] true⟩, ⟨none, .store 31 (.tmp 16) (.tmp 48), 0, none, .agg 38⟩]) (.seq (.reg [⟨some 49, .move (.tmp 11), 78, none, .no⟩, ⟨some 50, .fieldAddr 82 (.tmp 8) 0, 0, none, .off 0⟩, ⟨some 51, .load 3 (.tmp 50), 3, none, .one⟩, ⟨some 52, .load 31 (.tmp 16), 31, none, .agg 38⟩, ⟨some 53, .call { callee := .value (.func 38), args := ⟨[.tmp 49, .tmp 51, .tmp 52]⟩, argTypes := ⟨[78, 3, 31]⟩ }, 26, none, .one⟩, ⟨some 17, .assign (.tmp 53), 26, none, .no⟩]) (.seq (.seq (.reg [⟨some 54, .load 82 (.tmp 8), 82, none, .agg 3⟩, ⟨some 55, .load 82 (.tmp 9), 82, none, .agg 3⟩, ⟨some 56, .binOp .eql 82 (.tmp 54) (.tmp 55) 82, 4, none, .no⟩]) (.cond (.tmp 56) (.seq (.reg [⟨some 57, .move (.tmp 17), 26, none, .no⟩, ⟨some 58, .binOp .neq 26 (.tmp 57) (.const (.int .i64 0)) 26, 4, none, .no⟩, ⟨some 59, .move (.tmp 58), 4, none, .no⟩, ⟨some 60, .move (.tmp 11), 78, some (59, false), .no⟩, ⟨some 61, .load 82 (.tmp 9), 82, some (59, false), .agg 3⟩, ⟨some 62, .call { callee := .value (.func 42), args := ⟨[.tmp 60, .tmp 61]⟩, argTypes := ⟨[78, 82]⟩ }, 3, some (59, false), .one⟩, ⟨some 63, .move (.tmp 15), 3, some (59, false), .no⟩, ⟨some 64, .binOp .sub 3 (.tmp 63) (.const (.int .i64 1)) 3, 3, some (59, false), .no⟩, ⟨some 65, .binOp .eql 3 (.tmp 62) (.tmp 64) 3, 4, some (59, false), .no⟩, ⟨some 66, .move (.tmp 65), 4, some (59, false), .no⟩, ⟨some 67, .move (.tmp 11), 78, some (66, true), .no⟩, ⟨some 68, .load 82 (.tmp 9), 82, some (66, true), .agg 3⟩, ⟨some 69, .call { callee := .value (.func 41), args := ⟨[.tmp 67, .tmp 68]⟩, argTypes := ⟨[78, 82]⟩ }, 22, some (66, true), .one⟩, ⟨some 70, .call { callee := .builtin .len, args := ⟨[.tmp 69]⟩, argTypes := ⟨[22]⟩ }, 3, some (66, true), .sl 31 0⟩, ⟨some 71, .move (.tmp 14), 22, some (66, true), .no⟩, ⟨some 72, .call { callee := .builtin .len, args := ⟨[.tmp 71]⟩, argTypes := ⟨[22]⟩ }, 3, some (66, true), .sl 31 0⟩, ⟨some 73, .binOp .add 3 (.tmp 72) (.const (.int .i64 1)) 3, 3, some (66, true), .no⟩, ⟨some 74, .binOp .eql 3 (.tmp 70) (.tmp 73) 3, 4, some (66, true), .no⟩, ⟨some 75, .pick (.tmp 66) (.tmp 74) (.const (.bool false)), 4, some (59, false), .no⟩, ⟨some 76, .pick (.tmp 59) (.const (.bool true)) (.tmp 75), 4, none, .no⟩, ⟨some 10, .assign (.tmp 76), 4, none, .no⟩]) .ret) .skip)) (.seq (.reg [⟨some 77, .move (.tmp 11), 78, none, .no⟩, ⟨some 78, .load 82 (.tmp 9), 82, none, .agg 3⟩, ⟨some 79, .call { callee := .value (.func 41), args := ⟨[.tmp 77, .tmp 78]⟩, argTypes := ⟨[78, 82]⟩ }, 22, none, .one⟩, ⟨some 80, .move (.tmp 14), 22, none, .no⟩, ⟨some 81, .call { callee := .value (.func 18), args := ⟨[.tmp 79, .tmp 80]⟩, argTypes := ⟨[22, 22]⟩ }, 4, none, .one⟩, ⟨some 82, .move (.tmp 81), 4, none, .no⟩, ⟨some 83, .move (.tmp 11), 78, some (82, true), .no⟩, ⟨some 84, .load 82 (.tmp 9), 82, some (82, true), .agg 3⟩, ⟨some 85, .call { callee := .value (.func 42), args := ⟨[.tmp 83, .tmp 84]⟩, argTypes := ⟨[78, 82]⟩ }, 3, some (82, true), .one⟩, ⟨some 86, .move (.tmp 15), 3, some (82, true), .no⟩, ⟨some 87, .binOp .eql 3 (.tmp 85) (.tmp 86) 3, 4, some (82, true), .no⟩, ⟨some 88, .pick (.tmp 82) (.tmp 87) (.const (.bool false)), 4, none, .no⟩, ⟨some 10, .assign (.tmp 88), 4, none, .no⟩]) .ret)))))))))
theorem cAp_ok : mcOf Try.prog Try.f10.ntmps (Try.f10.body.getD .skip) = cAp := by kernel_rfl
theorem cAp_res : resOf Try.prog Try.f10.results.toList = some [.tmp 10] := by kernel_rfl
def msL (l : Lk) : Ms := ⟨1, l.2.1, l.2.2, 0, false, false, List.replicate 32 (.int .u8 0)⟩
theorem msL_ok {l : Lk} (hl : fit3 l) : (msL l).Ok := by
  have h0 : fitAll (List.replicate 32 (SK.int .u8)) (List.replicate 32 (Value.int .u8 0)) := by simp [fitAll, SK.fits, List.replicate, IntKind.min, IntKind.max, IntKind.signed, IntKind.bits]
  exact ⟨fit_small (k := 1) (by omega), hl.2.1, hl.2.2.1, fit_small (k := 0) (by omega), ⟨_, rfl⟩, ⟨_, rfl⟩, h0⟩
theorem law_NocApart {W : World} {nodes room : Int} {A : Option Addr} {cap : Nat} {ms : List Ms} {l o : Lk} (hms : ∀ m ∈ ms, m.Ok) (hl : fit3 l) (ho : fit3 o) (hr : Rd W 38 (.slice A ms.length cap) ms.length (flat (ms.map Ms.v))) :
    Calls Try.prog 10 #[.int .i64 nodes, .int .i64 room, .slice A ms.length cap, .agg (lkA l), .agg (lkA o)] W fun e w' => e = .returned (.bool true) ∧ Sat (World.env W) w' [Old W] := by
  obtain ⟨bb, q, hA, hcell⟩ := rd_spot hr (by omega)
  obtain ⟨N, hN⟩ : ∃ N, ms.length = N := ⟨_, rfl⟩
  rw [hN] at hA ⊢
  have hw : Sat (World.env W) W [Old W] := Sat.init W
  refine calls_ok hmo Try.func10 rfl cAp_ok cAp_res [(0, .v (.int .i64 nodes)), (1, .v (.int .i64 room)), (2, .v (.slice A N cap)), (3, .a [.int .i64 l.1, .int .i64 l.2.1, .int .i64 l.2.2]), (4, .a [.int .i64 o.1, .int .i64 o.2.1, .int .i64 o.2.2])] [] _ hw (by exact Nat.le_of_ble_eq_true rfl) (by simp [argsOk, isV, find, lkA]) ?_
  clear hw
  refine run_ok 4000 _ _ _ _ ?_; simp only [cAp, sx, Nat.reduceBEq, Nat.reduceAdd, Nat.reduceLeDiff, Nat.reduceMul, Int.toNat_natCast]
  intro b3 b4
  refine call_go fun w hs => ?_
  refine (noc_speaks hs).mono ?_
  rintro e w ⟨rfl, hw⟩
  refine ⟨.v (.bool true), _, _, rfl, rfl, hw, trivial, ?_⟩
  clear hw hs w
  refine run_ok 4000 _ _ _ _ ?_; simp only [sx, Nat.reduceBEq, Nat.reduceAdd, Nat.reduceLeDiff, Nat.reduceMul, Int.toNat_natCast]
  refine run_ok 4000 _ _ _ _ ?_; simp only [sx, Nat.reduceBEq, Nat.reduceAdd, Nat.reduceLeDiff, Nat.reduceMul, Int.toNat_natCast]
  refine ⟨fun hlt => ?_, fun hge => ?_⟩
  · refine run_ok 4000 _ _ _ _ ?_; simp only [sx, Nat.reduceBEq, Nat.reduceAdd, Nat.reduceLeDiff, Nat.reduceMul, Int.toNat_natCast]
    intro w hs
    exact hs.tail.tail
  have hge := of_decide_eq_false hge
  refine run_ok 4000 _ _ _ _ ?_; simp only [sx, Nat.reduceBEq, Nat.reduceAdd, Nat.reduceLeDiff, Nat.reduceMul, Int.toNat_natCast]
  refine call_go fun w hs => ?_
  refine (net_new hs).mono ?_
  rintro e w ⟨b, rfl, hw⟩
  obtain ⟨n, hn⟩ : ∃ n, (min (max nodes 0) 16).toNat = n := ⟨_, rfl⟩
  obtain ⟨rm, hrm⟩ : ∃ n, (min (max room 0) 4096).toNat = n := ⟨_, rfl⟩
  have hn16 : n ≤ 16 := by omega
  rw [hn, hrm] at hw
  refine ⟨.v (.pointer (some ⟨b, 0, none⟩)), _, Net b n rm (fun _ => []) :: [Old W], rfl, rfl, (Sat.gets hw (by repeat (first | exact Gets.nil | exact Gets.refl _ | refine Gets.get 0 rfl ?_ | refine Gets.get 1 rfl ?_ | refine Gets.get 2 rfl ?_ | refine Gets.get 3 rfl ?_ | refine Gets.get 4 rfl ?_ | refine Gets.get 5 rfl ?_ | refine Gets.get 6 rfl ?_ | refine Gets.get 7 rfl ?_ | refine Gets.get 8 rfl ?_ | refine Gets.get 9 rfl ?_ | refine Gets.drop ?_))), trivial, ?_⟩
  clear hw hs w
  refine run_ok 4000 _ _ _ _ ?_; simp only [sx, Nat.reduceBEq, Nat.reduceAdd, Nat.reduceLeDiff, Nat.reduceMul, Int.toNat_natCast]
  refine loop_ok (fun x : {x : Nat // x ≤ N} => ⟨[(8, .p 8 0), (9, .p 9 0), (11, .v (.pointer (some ⟨b, 0, none⟩))), (26, .v (.slice A N cap)), (27, .v (.int .i64 N)), (28, .v (.int .i64 x.1))], [⟨9, b4, 82, [.int .i64 o.1, .int .i64 o.2.1, .int .i64 o.2.2]⟩, ⟨8, b3, 82, [.int .i64 l.1, .int .i64 l.2.1, .int .i64 l.2.2]⟩], Net b n rm (sentAll n rm o.1 (ms.take x.1) (fun _ => [])) :: [Old W]⟩) (fun x => N - x.1) ⟨0, by omega⟩ (ent_ok ?_ ?_) ?_
  · simp only [sx, Nat.reduceBEq]; simp
  · intro w hw
    exact hw
  · rintro ⟨i, hi⟩
    refine run_ok 4000 _ _ _ _ ?_; simp only [sx, Nat.reduceBEq, Nat.reduceAdd, Nat.reduceLeDiff, Nat.reduceMul, Int.toNat_natCast]
    refine ⟨fun hlt => ?_, fun hge2 => ?_⟩
    · have hlt := of_decide_eq_true hlt
      have hAi := hA (by omega)
      subst hAi
      have hget : ms[i]? = some (ms[i]'(by omega)) := List.getElem?_eq_getElem (by omega)
      generalize ms[i]'(by omega) = m at hget
      have hmok := hms m (List.mem_of_getElem? hget)
      have h1 := Ms.one hmok
      have h2 := Ms.len hmok
      have h3 := Ms.tk hmok
      have hr2 : Rd W 38 (.slice (some ⟨bb, q, none⟩) (ms.map Ms.v).length cap) (ms.map Ms.v).length (flat (ms.map Ms.v)) := by rw [List.length_map]; exact hr
      refine run_ok 4000 _ _ _ _ ?_; simp only [sx, Nat.reduceBEq, Nat.reduceAdd, Nat.reduceLeDiff, Nat.reduceMul, Int.toNat_natCast]
      refine ⟨⟨by omega, by omega⟩, .a m.cs, _, rfl, fun a w he hs => ?_, ?_⟩
      · simp only [opsOf, Op.operands, sx, Nat.reduceBEq] at he
        exact ans_elem hr2 (msv_size hms) hs 3 rfl (i := i) (by rw [List.getElem?_map, hget]; rfl) he msg_agg
      refine run_ok 4000 _ _ _ _ ?_; simp only [Ms.cs, h1, h2, h3, sx, Nat.reduceBEq, Nat.reduceAdd, Nat.reduceLeDiff, Nat.reduceMul, Int.toNat_natCast]
      intro b13
      refine call_go fun w hs => ?_
      have h4 := net_send hmok ho.1 (hs.front 3 rfl)
      refine h4.mono ?_
      rintro e w ⟨rfl, hw⟩
      simp only [List.eraseIdx_cons_succ, List.eraseIdx_cons_zero] at hw
      refine ⟨.v (.int .i64 (sendE n rm (sentAll n rm o.1 (ms.take i) (fun _ => [])) (o.1, m.f, m.t))), _, Net b n rm (sentAll n rm o.1 (ms.take (i + 1)) (fun _ => [])) :: [Old W], rfl, rfl, ?_, trivial, ?_⟩
      · rw [List.take_add_one, hget, show (some m).toList = [m] from rfl, sentAll_app]
        exact (Sat.gets hw (by repeat (first | exact Gets.nil | exact Gets.refl _ | refine Gets.get 0 rfl ?_ | refine Gets.get 1 rfl ?_ | refine Gets.get 2 rfl ?_ | refine Gets.get 3 rfl ?_ | refine Gets.get 4 rfl ?_ | refine Gets.get 5 rfl ?_ | refine Gets.get 6 rfl ?_ | refine Gets.get 7 rfl ?_ | refine Gets.get 8 rfl ?_ | refine Gets.get 9 rfl ?_ | refine Gets.drop ?_)))
      clear hw hs w h4
      refine run_ok 4000 _ _ _ _ ?_; simp only [sx, Nat.reduceBEq, Nat.reduceAdd, Nat.reduceLeDiff, Nat.reduceMul, Int.toNat_natCast]
      refine ⟨by rw [inR64]; omega, back_ok ⟨i + 1, by omega⟩ ?_ ?_ (by show N - (i + 1) < N - i; omega)⟩
      · simp only [sx, Nat.reduceBEq]
        simp
      · intro w hw
        exact (Sat.gets hw (by repeat (first | exact Gets.nil | exact Gets.refl _ | refine Gets.get 0 rfl ?_ | refine Gets.get 1 rfl ?_ | refine Gets.get 2 rfl ?_ | refine Gets.get 3 rfl ?_ | refine Gets.get 4 rfl ?_ | refine Gets.get 5 rfl ?_ | refine Gets.get 6 rfl ?_ | refine Gets.get 7 rfl ?_ | refine Gets.get 8 rfl ?_ | refine Gets.get 9 rfl ?_ | refine Gets.drop ?_)))
    · have hge2 : i = N := by have := of_decide_eq_false hge2; omega
      subst hge2
      rw [List.take_of_length_le (by omega)]
      generalize sentAll n rm o.1 ms (fun _ => []) = st
      refine run_ok 4000 _ _ _ _ ?_; simp only [sx, Nat.reduceBEq, Nat.reduceAdd, Nat.reduceLeDiff, Nat.reduceMul, Int.toNat_natCast]
      refine dreg_ok [⟨9, b4, 82, [.int .i64 o.1, .int .i64 o.2.1, .int .i64 o.2.2]⟩, ⟨8, b3, 82, [.int .i64 l.1, .int .i64 l.2.1, .int .i64 l.2.2]⟩] (Net b n rm st :: [Old W]) (fun _ h => h) ?_
      refine run_ok 4000 _ _ _ _ ?_; simp only [sx, Nat.reduceBEq, Nat.reduceAdd, Nat.reduceLeDiff, Nat.reduceMul, Int.toNat_natCast]
      refine call_go fun w hs => ?_
      have hok := allF_ok (l := o) (hs.front 2 rfl)
      have hal := allF_len (l := o) (hs.front 2 rfl)
      have hrf : -5000 ≤ roomF n rm st o ∧ roomF n rm st o ≤ 5000 := by
        unfold allF at hal
        unfold roomF
        cases ht : thereB n o <;> simp [ht] at hal ⊢ <;> omega
      refine (net_allF ho (hs.front 2 rfl)).mono ?_
      rintro e w ⟨A1, c1, rfl, hw⟩
      refine ⟨.v (.slice A1 (allF n st o).length c1), _, Row 31 38 (.slice A1 (allF n st o).length c1) (allF n st o).length (flat (allF n st o)) :: Net b n rm st :: [Old W], rfl, rfl, (Sat.gets hw (by repeat (first | exact Gets.nil | exact Gets.refl _ | refine Gets.get 0 rfl ?_ | refine Gets.get 1 rfl ?_ | refine Gets.get 2 rfl ?_ | refine Gets.get 3 rfl ?_ | refine Gets.get 4 rfl ?_ | refine Gets.get 5 rfl ?_ | refine Gets.get 6 rfl ?_ | refine Gets.get 7 rfl ?_ | refine Gets.get 8 rfl ?_ | refine Gets.get 9 rfl ?_ | refine Gets.drop ?_))), fun w hw => (Sat.gets hw (by repeat (first | exact Gets.nil | exact Gets.refl _ | refine Gets.get 0 rfl ?_ | refine Gets.get 1 rfl ?_ | refine Gets.get 2 rfl ?_ | refine Gets.get 3 rfl ?_ | refine Gets.get 4 rfl ?_ | refine Gets.get 5 rfl ?_ | refine Gets.get 6 rfl ?_ | refine Gets.get 7 rfl ?_ | refine Gets.get 8 rfl ?_ | refine Gets.get 9 rfl ?_ | refine Gets.drop ?_))), ?_⟩
      clear hw hs w
      refine run_ok 4000 _ _ _ _ ?_; simp only [sx, Nat.reduceBEq, Nat.reduceAdd, Nat.reduceLeDiff, Nat.reduceMul, Int.toNat_natCast]
      refine call_go fun w hs => ?_
      refine (net_room ho (hs.front 3 rfl)).mono ?_
      rintro e w ⟨rfl, hw⟩
      refine ⟨.v (.int .i64 (roomF n rm st o)), _, Row 31 38 (.slice A1 (allF n st o).length c1) (allF n st o).length (flat (allF n st o)) :: Net b n rm st :: [Old W], rfl, rfl, (Sat.gets hw (by repeat (first | exact Gets.nil | exact Gets.refl _ | refine Gets.get 0 rfl ?_ | refine Gets.get 1 rfl ?_ | refine Gets.get 2 rfl ?_ | refine Gets.get 3 rfl ?_ | refine Gets.get 4 rfl ?_ | refine Gets.get 5 rfl ?_ | refine Gets.get 6 rfl ?_ | refine Gets.get 7 rfl ?_ | refine Gets.get 8 rfl ?_ | refine Gets.get 9 rfl ?_ | refine Gets.drop ?_))), trivial, ?_⟩
      clear hw hs w
      refine run_ok 4000 _ _ _ _ ?_; simp only [Bool.or_false, Bool.or_self, cond_false, sx, Nat.reduceBEq, Nat.reduceAdd, Nat.reduceLeDiff, Nat.reduceMul, Int.toNat_natCast]
      intro b16
      refine call_go fun w hs => ?_
      have h4 := net_send (msL_ok hl) hl.1 (hs.front 4 rfl)
      rw [show (l.1, (msL l).f, (msL l).t) = l from rfl] at h4
      refine h4.mono ?_
      clear h4
      rintro e w ⟨rfl, hw⟩
      simp only [List.eraseIdx_cons_succ, List.eraseIdx_cons_zero] at hw
      refine ⟨.v (.int .i64 (sendE n rm st l)), _, Row 31 38 (.slice A1 (allF n st o).length c1) (allF n st o).length (flat (allF n st o)) :: Net b n rm (sendS n rm st l (msL l).v) :: [Old W], rfl, rfl, (Sat.gets hw (by repeat (first | exact Gets.nil | exact Gets.refl _ | refine Gets.get 0 rfl ?_ | refine Gets.get 1 rfl ?_ | refine Gets.get 2 rfl ?_ | refine Gets.get 3 rfl ?_ | refine Gets.get 4 rfl ?_ | refine Gets.get 5 rfl ?_ | refine Gets.get 6 rfl ?_ | refine Gets.get 7 rfl ?_ | refine Gets.get 8 rfl ?_ | refine Gets.get 9 rfl ?_ | refine Gets.drop ?_))), trivial, ?_⟩
      clear hw hs w
      refine run_ok 4000 _ _ _ _ ?_; simp only [sx, Nat.reduceBEq, Nat.reduceAdd, Nat.reduceLeDiff, Nat.reduceMul, Int.toNat_natCast]
      refine ⟨.v (.bool (decide (l = o))), _, rfl, fun a w he hs => ?_, ?_⟩
      · simp only [opsOf, Op.operands, sx, Nat.reduceBEq] at he
        exact ans_lkeq hl ho he.1 he.2
      refine run_ok 4000 _ _ _ _ ?_; simp only [sx, Nat.reduceBEq, Nat.reduceAdd, Nat.reduceLeDiff, Nat.reduceMul, Int.toNat_natCast]
      refine ⟨fun heq => ?_, fun hne => ?_⟩
      · have heq := of_decide_eq_true heq
        subst heq
        refine run_ok 8 _ _ _ _ ?_
        simp only [sx, Nat.reduceBEq, Nat.reduceAdd, Nat.reduceLeDiff, Nat.reduceMul, Int.toNat_natCast]
        by_cases h0 : sendE n rm st l = 0
        · have hd0 : decide (sendE n rm st l ≠ 0) = false := decide_eq_false (fun h => h h0)
          rw [hd0]
          obtain ⟨g1, g2⟩ := send_here (m := (msL l).v) h0
          refine run_ok 4000 _ _ _ _ ?_; simp only [sx, Nat.reduceBEq, Nat.reduceAdd, Nat.reduceLeDiff, Nat.reduceMul, Int.toNat_natCast]
          refine run_ok 4000 _ _ _ _ ?_; simp only [sx, Nat.reduceBEq, Nat.reduceAdd, Nat.reduceLeDiff, Nat.reduceMul, Int.toNat_natCast]
          refine call_go fun w hs => ?_
          have h4 := net_room ho (hs.front 4 rfl)
          rw [g2] at h4
          refine h4.mono ?_
          rintro e w ⟨rfl, hw⟩
          refine ⟨.v (.int .i64 (roomF n rm st l - 1)), _, Row 31 38 (.slice A1 (allF n st l).length c1) (allF n st l).length (flat (allF n st l)) :: Net b n rm (sendS n rm st l (msL l).v) :: [Old W], rfl, rfl, (Sat.gets hw (by repeat (first | exact Gets.nil | exact Gets.refl _ | refine Gets.get 0 rfl ?_ | refine Gets.get 1 rfl ?_ | refine Gets.get 2 rfl ?_ | refine Gets.get 3 rfl ?_ | refine Gets.get 4 rfl ?_ | refine Gets.get 5 rfl ?_ | refine Gets.get 6 rfl ?_ | refine Gets.get 7 rfl ?_ | refine Gets.get 8 rfl ?_ | refine Gets.get 9 rfl ?_ | refine Gets.drop ?_))), trivial, ?_⟩
          clear hw hs w h4
          refine run_ok 4000 _ _ _ _ ?_; simp only [sx, Nat.reduceBEq, Nat.reduceAdd, Nat.reduceLeDiff, Nat.reduceMul, Int.toNat_natCast]
          refine ⟨by rw [inR64]; omega, fun _ => ?_, fun h => by simp at h⟩
          refine run_ok 4000 _ _ _ _ ?_; simp only [sx, Nat.reduceBEq, Nat.reduceAdd, Nat.reduceLeDiff, Nat.reduceMul, Int.toNat_natCast]
          refine ⟨by simp, call_go fun w hs => ?_⟩
          refine (net_allF ho (hs.front 4 rfl)).mono ?_
          rw [g1]
          rintro e w ⟨A2, c2, rfl, hw⟩
          refine ⟨.v (.slice A2 ((allF n st l).length + 1) c2), _, Row 31 38 (.slice A1 (allF n st l).length c1) (allF n st l).length (flat (allF n st l)) :: Net b n rm (sendS n rm st l (msL l).v) :: [Old W], rfl, rfl, (Sat.gets hw (by repeat (first | exact Gets.nil | exact Gets.refl _ | refine Gets.get 0 rfl ?_ | refine Gets.get 1 rfl ?_ | refine Gets.get 2 rfl ?_ | refine Gets.get 3 rfl ?_ | refine Gets.get 4 rfl ?_ | refine Gets.get 5 rfl ?_ | refine Gets.get 6 rfl ?_ | refine Gets.get 7 rfl ?_ | refine Gets.get 8 rfl ?_ | refine Gets.get 9 rfl ?_ | refine Gets.drop ?_))), trivial, ?_⟩
          clear hw hs w
          refine run_ok 4000 _ _ _ _ ?_; simp only [sx, Nat.reduceBEq, Nat.reduceAdd, Nat.reduceLeDiff, Nat.reduceMul, Int.toNat_natCast]
          refine ⟨by rw [inR64]; omega, fun w hs => ?_⟩
          exact ⟨by simp, hs.tail.tail.tail.tail.tail⟩
        · have hd0 : decide (sendE n rm st l ≠ 0) = true := decide_eq_true h0
          rw [hd0]
          iterate 7 (refine skip_op 59 false (.bool true) _ rfl rfl trivial (fun e => by cases e) ?_)
          iterate 8 (refine skip_op 66 true undef _ rfl rfl trivial (fun e => by cases e) ?_)
          refine skip_op 59 false (.bool true) _ rfl rfl trivial (fun e => by cases e) ?_
          refine run_ok 4000 _ _ _ _ ?_; simp only [undef, sx, Nat.reduceBEq, Nat.reduceAdd, Nat.reduceLeDiff, Nat.reduceMul, Int.toNat_natCast]
          intro w hs
          exact hs.tail.tail.tail.tail.tail
      · have hne := of_decide_eq_false hne
        obtain ⟨g1, g2⟩ := send_other (n := n) (room := rm) (st := st) (m := (msL l).v) hne
        refine run_ok 4000 _ _ _ _ ?_; simp only [sx, Nat.reduceBEq, Nat.reduceAdd, Nat.reduceLeDiff, Nat.reduceMul, Int.toNat_natCast]
        refine call_go fun w hs => ?_
        have hok2 := allF_ok (l := o) (hs.front 4 rfl)
        refine (net_allF ho (hs.front 4 rfl)).mono ?_
        rw [g1]
        rintro e w ⟨A2, c2, rfl, hw⟩
        refine ⟨.v (.slice A2 (allF n st o).length c2), _, Row 31 38 (.slice A2 (allF n st o).length c2) (allF n st o).length (flat (allF n st o)) :: Row 31 38 (.slice A1 (allF n st o).length c1) (allF n st o).length (flat (allF n st o)) :: Net b n rm (sendS n rm st l (msL l).v) :: [Old W], rfl, rfl, (Sat.gets hw (by repeat (first | exact Gets.nil | exact Gets.refl _ | refine Gets.get 0 rfl ?_ | refine Gets.get 1 rfl ?_ | refine Gets.get 2 rfl ?_ | refine Gets.get 3 rfl ?_ | refine Gets.get 4 rfl ?_ | refine Gets.get 5 rfl ?_ | refine Gets.get 6 rfl ?_ | refine Gets.get 7 rfl ?_ | refine Gets.get 8 rfl ?_ | refine Gets.get 9 rfl ?_ | refine Gets.drop ?_))), trivial, ?_⟩
        clear hw hs w
        refine run_ok 4000 _ _ _ _ ?_; simp only [sx, Nat.reduceBEq, Nat.reduceAdd, Nat.reduceLeDiff, Nat.reduceMul, Int.toNat_natCast]
        refine call_go fun w hs => ?_
        have hs1 := hs
        refine (ref_same (Rd_row hs 3 rfl) (Rd_row hs 4 rfl) hok hok (by omega)).mono ?_
        rintro e w1 ⟨rfl, k, rfl⟩
        refine ⟨.v (.bool true), _, _, by rw [sameL_iff.2 rfl], rfl, hs.drewN k, trivial, ?_⟩
        clear hs1 hs w
        refine run_ok 4000 _ _ _ _ ?_; simp only [sx, Nat.reduceBEq, Nat.reduceAdd, Nat.reduceLeDiff, Nat.reduceMul, Int.toNat_natCast]
        refine run_ok 4000 _ _ _ _ ?_; simp only [sx, Nat.reduceBEq, Nat.reduceAdd, Nat.reduceLeDiff, Nat.reduceMul, Int.toNat_natCast]
        refine call_go fun w hs => ?_
        have h4 := net_room ho (hs.front 5 rfl)
        rw [g2] at h4
        refine h4.mono ?_
        rintro e w ⟨rfl, hw⟩
        refine ⟨.v (.int .i64 (roomF n rm st o)), _, Net b n rm (sendS n rm st l (msL l).v) :: [Old W], rfl, rfl, (Sat.gets hw (by repeat (first | exact Gets.nil | exact Gets.refl _ | refine Gets.get 0 rfl ?_ | refine Gets.get 1 rfl ?_ | refine Gets.get 2 rfl ?_ | refine Gets.get 3 rfl ?_ | refine Gets.get 4 rfl ?_ | refine Gets.get 5 rfl ?_ | refine Gets.get 6 rfl ?_ | refine Gets.get 7 rfl ?_ | refine Gets.get 8 rfl ?_ | refine Gets.get 9 rfl ?_ | refine Gets.drop ?_))), trivial, ?_⟩
        clear hw hs w h4
        refine run_ok 4000 _ _ _ _ ?_; simp only [sx, Nat.reduceBEq, Nat.reduceAdd, Nat.reduceLeDiff, Nat.reduceMul, Int.toNat_natCast]
        intro w hs
        exact ⟨by simp, hs.tail.tail.tail.tail⟩
end Go.Proofs.Ytbkfhieadnfndaa
