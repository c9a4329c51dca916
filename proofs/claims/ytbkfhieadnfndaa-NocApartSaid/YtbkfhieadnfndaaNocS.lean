/- The net's functions: contracts. Conditions: none. -/
import Derived.Test.YtbkfhieadnfndaaNocH
set_option linter.unusedVariables false
set_option linter.unusedSimpArgs false
namespace Go.Proofs.Ytbkfhieadnfndaa
open Go Go.RowKit Go.Sx Go.Bst
set_option maxRecDepth 100000
set_option maxHeartbeats 4000000
theorem hmo : Try.prog.follows .mixedOrders = true := by kernel_rfl
theorem Ms.one {m : Ms} (h : m.Ok) : m.d.all (·.oneCell') = true := by
  have := Msg.one h
  simp only [Ms.v, Ms.cs, List.all_toArray, List.all_cons, Bool.and_eq_true] at this
  exact this.2.2.2.2.2.2
theorem Ms.tk {m : Ms} (h : m.Ok) : m.d.take 32 = m.d := List.take_of_length_le (by rw [Ms.len h]; exact Nat.le_refl _)
theorem u_Link : Try.prog.underlying 113 = some (.map 82 24) := by kernel_rfl
theorem z_Queue : zeroOf Try.prog 24 = some (.pointer none) := by kernel_rfl
theorem fields3 : ∃ f1 f2 f3 : Field, Try.prog.underlying 82 = some (.struct #[f1, f2, f3]) ∧ f1.name ≠ "_" ∧ f2.name ≠ "_" ∧ f3.name ≠ "_" ∧ f1.type = 3 ∧ f2.type = 3 ∧ f3.type = 3 ∧ f1.offset = 0 ∧ f2.offset = 1 ∧ f3.offset = 2 :=
  ⟨_, _, _, Try.underlying82, by decide, by decide, by decide, rfl, rfl, rfl, rfl, rfl, rfl⟩
theorem k_Link : KeyKind Try.prog 82 IsLk := by
  obtain ⟨f1, f2, f3, h1, h2, h3, h4, h5, h6, h7, h8, h9, h10⟩ := fields3
  exact KeyKind.lk h1 h2 h3 h4 h5 h6 h7 h8 h9 h10 Try.underlying3 (by kernel_rfl) (by rw [show aggSize Try.prog 82 = some 3 from by kernel_rfl]; simp)
def cSend : Mc := .seq (.reg [⟨some 5, .box 31 (.tmp 2), 0, none, .agg 38⟩, ⟨some 6, .assign (.const (.int .i64 0)), 26, none, .no⟩]) (.seq (.dreg [(.P, ⟨some 10, .move (.tmp 0), 78, none, .no⟩), (.P, ⟨some 11, .nilCheck (.tmp 10), 0, none, .no⟩), (.P, ⟨some 12, .fieldAddr 115 (.tmp 11) 1, 0, none, .off 1⟩), (.R, ⟨some 13, .load 113 (.tmp 12), 113, none, .one⟩), (.P, ⟨some 14, .move (.tmp 1), 3, none, .no⟩), (.P, ⟨some 15, .fieldAddr 31 (.tmp 5) 1, 0, none, .off 1⟩), (.R, ⟨some 16, .load 3 (.tmp 15), 3, none, .one⟩), (.P, ⟨some 17, .fieldAddr 31 (.tmp 5) 2, 0, none, .off 2⟩), (.R, ⟨some 18, .load 3 (.tmp 17), 3, none, .one⟩), (.P, ⟨some 19, .build 82 ⟨[(0, .tmp 14), (1, .tmp 16), (2, .tmp 18)]⟩, 82, none, .lay [.int .i64 0, .int .i64 0, .int .i64 0] [(0, 1), (1, 1), (2, 1)]⟩), (.R, ⟨some 20, .lookup 113 (.tmp 13) (.tmp 19) true, 116, none, .no⟩), (.P, ⟨some 9, .move (.tmp 20), 116, none, .no⟩), (.P, ⟨some 21, .extract (.tmp 9) 0, 24, none, .no⟩), (.P, ⟨some 22, .extract (.tmp 9) 1, 4, none, .no⟩), (.P, ⟨some 7, .assign (.tmp 21), 24, none, .no⟩), (.P, ⟨some 8, .assign (.tmp 22), 4, none, .no⟩)] 0 true) (.seq (.seq (.reg [⟨some 23, .move (.tmp 8), 4, none, .no⟩, ⟨some 24, .unOp .not 4 (.tmp 23), 4, none, .no⟩]) (.cond (.tmp 24) (.seq (.reg [⟨some 6, .assign (.const (.int .i64 2)), 26, none, .no⟩]) .ret) .skip)) (.seq (.reg [⟨some 25, .move (.tmp 7), 24, none, .no⟩, ⟨some 26, .load 31 (.tmp 5), 31, none, .agg 38⟩, ⟨some 27, .call { callee := .value (.func 14), args := ⟨[.tmp 25, .tmp 26]⟩, argTypes := ⟨[24, 31]⟩ }, 26, none, .one⟩, ⟨some 6, .assign (.tmp 27), 26, none, .no⟩]) .ret)))
theorem cSend_ok : mcOf Try.prog Try.f38.ntmps (Try.f38.body.getD .skip) = cSend := by kernel_rfl
theorem cSend_res : resOf Try.prog Try.f38.results.toList = some [.tmp 6] := by kernel_rfl
section
variable {E : Env} {w : World} {F : List HP} {b n room : Nat} {st : Lk → List (Array Value)}
def sendE (n room : Nat) (st : Lk → List (Array Value)) (l : Lk) : Int := bif thereB n l then (if (st l).length < room then 0 else 5) else 2
def sendS (n room : Nat) (st : Lk → List (Array Value)) (l : Lk) (m : Array Value) : Lk → List (Array Value) := if sendE n room st l = 0 then setQ st l (st l ++ [m]) else st
theorem look2 {l : Lk} {mb : Nat} {adr : Lk → Nat} {H : List HP} {a : Act} {x y : Operand} {tt : TypeId} (b : Bool) (ht : thereB n l = b) (hl : fit3 l) (hs : Sat E w H) (k : Nat) (hk : H[k]? = some (Mf mb IsLk (keyF n adr))) (hx : a.eval x = .map (some mb)) (hy : a.eval y = lkV l) :
    Ans Try.prog (.lookup 113 x y true) tt a w (.tuple #[bif b then .pointer (some ⟨adr l, 0, none⟩) else .pointer none, .bool b]) := by
  have := ans_lookup2 (tt := tt) hs k hk k_Link u_Link z_Queue hx hy ⟨_, rfl, hl⟩
  rw [keyF_lk, ht] at this
  cases b <;> exact this
theorem net_send {m : Ms} {net : Int} (hm : m.Ok) (hn : SK.fits (.int .i64) (.int .i64 net)) (hw : Sat E w (Net b n room st :: F)) :
    Calls Try.prog 38 #[.pointer (some ⟨b, 0, none⟩), .int .i64 net, .agg m.v] w fun e w' => e = .returned (.int .i64 (sendE n room st (net, m.f, m.t))) ∧ Sat E w' (Net b n room (sendS n room st (net, m.f, m.t) m.v) :: F) := by
  obtain ⟨mb, adr, hw⟩ := Net_open hw
  have h1 := Ms.one hm
  have h2 := Ms.len hm
  have h3 := Ms.tk hm
  have hlk := Ms.lk hm net hn
  refine calls_ok hmo Try.func38 rfl cSend_ok cSend_res [(0, .p 100 0), (1, .v (.int .i64 net)), (2, .a m.cs)] [⟨100, b, 115, [.int .i64 n, .map (some mb)]⟩] _ hw (by exact Nat.le_of_ble_eq_true rfl) (by simp [argsOk, isV, find, Ms.v]) ?_
  refine run_ok 4000 _ _ _ _ ?_; simp only [cSend, Ms.cs, h1, h2, h3, sx, Nat.reduceBEq, Nat.reduceAdd, Nat.reduceLeDiff, Nat.reduceMul, Int.toNat_natCast]
  intro b1
  cases ht : thereB n (net, m.f, m.t) with
  | false =>
    refine ⟨.t2 (.v (.pointer none)) (.v (.bool false)), _, rfl, fun a w' he hs => ?_, ?_⟩
    · simp only [opsOf, Op.operands, sx, Nat.reduceBEq] at he
      exact look2 (l := (net, m.f, m.t)) false ht hlk hs 2 rfl he.1 he.2
    · refine run_ok 4000 _ _ _ _ ?_; simp only [sx, Nat.reduceBEq, Nat.reduceAdd, Nat.reduceLeDiff, Nat.reduceMul, Int.toNat_natCast]
      refine run_ok 4000 _ _ _ _ ?_; simp only [sx, Nat.reduceBEq, Nat.reduceAdd, Nat.reduceLeDiff, Nat.reduceMul, Int.toNat_natCast]
      intro w hs
      have he : sendE n room st (net, m.f, m.t) = 2 := by unfold sendE; rw [ht]; rfl
      refine ⟨by rw [he], ?_⟩
      unfold sendS; rw [he, if_neg (by omega)]
      exact Net_shut (Sat.tail hs)
  | true =>
    refine ⟨.t2 (.v (.pointer (some ⟨adr (net, m.f, m.t), 0, none⟩))) (.v (.bool true)), _, rfl, fun a w' he hs => ?_, ?_⟩
    · simp only [opsOf, Op.operands, sx, Nat.reduceBEq] at he
      exact look2 (l := (net, m.f, m.t)) true ht hlk hs 2 rfl he.1 he.2
    · refine run_ok 4000 _ _ _ _ ?_; simp only [sx, Nat.reduceBEq, Nat.reduceAdd, Nat.reduceLeDiff, Nat.reduceMul, Int.toNat_natCast]
      refine run_ok 4000 _ _ _ _ ?_; simp only [h2, h3, sx, Nat.reduceBEq, Nat.reduceAdd, Nat.reduceLeDiff, Nat.reduceMul, Int.toNat_natCast]
      refine call_go fun w hs => ?_
      have hq := Qs_take (nodup_lks n) (mem_lks.2 ht) (hs.front 3 rfl)
      have hnx : ∀ (r : Int) (st' : Lk → List (Array Value)), sendE n room st (net, m.f, m.t) = r → sendS n room st (net, m.f, m.t) m.v = st' → True := fun _ _ _ _ => trivial
      by_cases hr : (st (net, m.f, m.t)).length < room
      · refine (ring_put hq hm hr).mono ?_
        rintro e w ⟨rfl, hw⟩
        have hw := Qs_put (nodup_lks n) (mem_lks.2 ht) hw
        refine ⟨.v (.int .i64 0), _, Mf mb IsLk (keyF n adr) :: Qs adr room (setQ st (net, m.f, m.t) (st (net, m.f, m.t) ++ [m.v])) (lks n) :: F, rfl, rfl, (Sat.gets hw (by repeat (first | exact Gets.nil | exact Gets.refl _ | refine Gets.get 0 rfl ?_ | refine Gets.get 1 rfl ?_ | refine Gets.get 2 rfl ?_ | refine Gets.get 3 rfl ?_ | refine Gets.get 4 rfl ?_ | refine Gets.get 5 rfl ?_ | refine Gets.get 6 rfl ?_ | refine Gets.get 7 rfl ?_ | refine Gets.get 8 rfl ?_ | refine Gets.get 9 rfl ?_ | refine Gets.drop ?_))), trivial, ?_⟩
        refine run_ok 4000 _ _ _ _ ?_; simp only [sx, Nat.reduceBEq, Nat.reduceAdd, Nat.reduceLeDiff, Nat.reduceMul, Int.toNat_natCast]
        intro w hs
        have he : sendE n room st (net, m.f, m.t) = 0 := by unfold sendE; rw [ht, cond_true, if_pos hr]
        refine ⟨by rw [he], ?_⟩
        unfold sendS; rw [he, if_pos rfl]
        exact Net_shut (Sat.tail hs)
      · refine (ring_put_full hq hm (by omega)).mono ?_
        rintro e w ⟨rfl, hw⟩
        have hw := Qs_put (nodup_lks n) (mem_lks.2 ht) hw
        have hst : setQ st (net, m.f, m.t) (st (net, m.f, m.t)) = st := by funext x; unfold setQ; split <;> simp_all
        rw [hst] at hw
        refine ⟨.v (.int .i64 5), _, Mf mb IsLk (keyF n adr) :: Qs adr room st (lks n) :: F, rfl, rfl, (Sat.gets hw (by repeat (first | exact Gets.nil | exact Gets.refl _ | refine Gets.get 0 rfl ?_ | refine Gets.get 1 rfl ?_ | refine Gets.get 2 rfl ?_ | refine Gets.get 3 rfl ?_ | refine Gets.get 4 rfl ?_ | refine Gets.get 5 rfl ?_ | refine Gets.get 6 rfl ?_ | refine Gets.get 7 rfl ?_ | refine Gets.get 8 rfl ?_ | refine Gets.get 9 rfl ?_ | refine Gets.drop ?_))), trivial, ?_⟩
        refine run_ok 4000 _ _ _ _ ?_; simp only [sx, Nat.reduceBEq, Nat.reduceAdd, Nat.reduceLeDiff, Nat.reduceMul, Int.toNat_natCast]
        intro w hs
        have he : sendE n room st (net, m.f, m.t) = 5 := by unfold sendE; rw [ht, cond_true, if_neg hr]
        refine ⟨by rw [he], ?_⟩
        unfold sendS; rw [he, if_neg (by omega)]
        exact Net_shut (Sat.tail hs)
end
end Go.Proofs.Ytbkfhieadnfndaa
