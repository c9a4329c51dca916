/- noc.Len. Conditions: none. -/
import Derived.Test.YtbkfhieadnfndaaNocY
set_option linter.unusedVariables false
set_option linter.unusedSimpArgs false
namespace Go.Proofs.Ytbkfhieadnfndaa
open Go Go.RowKit Go.Sx Go.Bst
set_option maxRecDepth 100000
set_option maxHeartbeats 4000000
def cLen : Mc := .seq (.reg [⟨some 2, .assign (.const (.int .i64 0)), 3, none, .no⟩]) (.seq (.seq (.reg [⟨some 5, .move (.tmp 0), 78, none, .no⟩, ⟨some 6, .nilCheck (.tmp 5), 0, none, .no⟩, ⟨some 7, .fieldAddr 115 (.tmp 6) 1, 0, none, .off 1⟩, ⟨some 8, .load 113 (.tmp 7), 113, none, .one⟩, ⟨some 9, .range 113 (.tmp 8), 0, none, .no⟩]) (.block 0 (.loop (.seq (.reg [⟨some 10, .next (.tmp 9) false, 0, none, .no⟩, ⟨some 11, .extract (.tmp 10) 0, 4, none, .no⟩]) (.seq (.cond (.tmp 11) .skip (.exit 0)) (.block 1 (.seq (.reg [⟨some 12, .entry (.tmp 9), 0, none, .no⟩, ⟨some 13, .extract (.tmp 12) 1, 24, none, .no⟩, ⟨some 4, .assign (.tmp 13), 24, none, .no⟩]) (.reg [⟨some 14, .move (.tmp 2), 3, none, .no⟩, ⟨some 15, .move (.tmp 4), 24, none, .no⟩, ⟨some 16, .call { callee := .value (.func 15), args := ⟨[.tmp 15]⟩, argTypes := ⟨[24]⟩ }, 3, none, .one⟩, ⟨some 17, .binOp .add 3 (.tmp 14) (.tmp 16) 3, 3, none, .no⟩, ⟨some 2, .assign (.tmp 17), 3, none, .no⟩])))))))) (.seq (.reg [⟨some 18, .move (.tmp 2), 3, none, .no⟩, ⟨some 2, .assign (.tmp 18), 3, none, .no⟩]) .ret))
theorem cLen_ok : mcOf Try.prog Try.f40.ntmps (Try.f40.body.getD .skip) = cLen := by kernel_rfl
theorem cLen_res : resOf Try.prog Try.f40.results.toList = some [.tmp 2] := by kernel_rfl
def tot (st : Lk → List (Array Value)) (xs : List Lk) : Nat := (xs.map fun l => (st l).length).sum
theorem tot_more (st : Lk → List (Array Value)) (xs : List Lk) (x : Lk) : tot st (xs ++ [x]) = tot st xs + (st x).length := by simp [tot]
theorem tot_all {st : Lk → List (Array Value)} {n : Nat} {xs : List Lk} (h : AllLk n xs) : tot st xs = tot st (lks n) := by
  have hp : xs.Perm (lks n) := (List.perm_ext_iff_of_nodup h.1 (nodup_lks n)).2 fun x => by rw [h.2, mem_lks]
  exact (hp.map _).sum_nat
theorem tot_le {st : Lk → List (Array Value)} : ∀ (xs : List Lk), (∀ x ∈ xs, (st x).length ≤ 4096) → tot st xs ≤ xs.length * 4096
  | [], _ => by simp [tot]
  | x :: xs, h => by
    have h1 := tot_le xs fun y hy => h y (List.mem_cons_of_mem _ hy)
    have h2 := h x List.mem_cons_self
    have h3 : tot st (x :: xs) = (st x).length + tot st xs := by simp [tot]
    rw [h3, List.length_cons, Nat.add_mul]; omega
section
variable {E : Env} {w : World} {F : List HP} {b n room : Nat} {st : Lk → List (Array Value)}
theorem Qs_len {adr : Lk → Nat} (h : Sat E w (Qs adr room st (lks n) :: F)) : ∀ l ∈ lks n, (st l).length ≤ 4096 := fun l hl => by
  have := (Queue_open (Qs_take (nodup_lks n) hl h)).1
  omega
theorem net_len (hn : n ≤ 16) (hw : Sat E w (Net b n room st :: F)) :
    Calls Try.prog 40 #[.pointer (some ⟨b, 0, none⟩)] w fun e w' => e = .returned (.int .i64 (tot st (lks n))) ∧ Sat E w' (Net b n room st :: F) := by
  obtain ⟨mb, adr, hw⟩ := Net_open hw
  have hql := Qs_len (hw.front 2 rfl)
  have hll : (lks n).length ≤ 768 := by
    rw [lks_len]
    have hn2 : n * n ≤ 16 * 16 := Nat.mul_le_mul hn hn
    omega
  refine calls_ok hmo Try.func40 rfl cLen_ok cLen_res [(0, .p 100 0)] [⟨100, b, 115, [.int .i64 n, .map (some mb)]⟩] _ hw (by exact Nat.le_of_ble_eq_true rfl) (by simp [argsOk, isV, find]) ?_
  clear hw
  refine run_ok 4000 _ _ _ _ ?_; simp only [cLen, sx, Nat.reduceBEq, Nat.reduceAdd, Nat.reduceLeDiff, Nat.reduceMul, Int.toNat_natCast]
  intro a w Q he hs
  simp only [opsOf, Op.operands, sx, Nat.reduceBEq] at he
  refine wk_range u_Link he (hs.front 1 rfl) fun r m w hw => ?_
  simp only [List.eraseIdx_cons_succ, List.eraseIdx_cons_zero] at hw
  refine ⟨.v (.pointer (some ⟨r, 0, none⟩)), _, _, Rng r mb IsLk (keyF n adr) m [] :: Qs adr room st (lks n) :: F, rfl, rfl, rfl, (Sat.gets hw (by repeat (first | exact Gets.nil | exact Gets.refl _ | refine Gets.get 0 rfl ?_ | refine Gets.get 1 rfl ?_ | refine Gets.get 2 rfl ?_ | refine Gets.get 3 rfl ?_ | refine Gets.get 4 rfl ?_ | refine Gets.get 5 rfl ?_ | refine Gets.get 6 rfl ?_ | refine Gets.get 7 rfl ?_ | refine Gets.get 8 rfl ?_ | refine Gets.get 9 rfl ?_ | refine Gets.drop ?_))), trivial, ?_⟩
  clear hs hw
  refine run_ok 4000 _ _ _ _ ?_; simp only [sx, Nat.reduceBEq, Nat.reduceAdd, Nat.reduceLeDiff, Nat.reduceMul, Int.toNat_natCast]
  refine loop_ok (fun x : {x : List Lk // x.Nodup ∧ ∀ y ∈ x, thereB n y = true} => ⟨[(0, .p 100 0), (2, .v (.int .i64 (tot st x.1))), (9, .v (.pointer (some ⟨r, 0, none⟩)))], [⟨100, b, 115, [.int .i64 n, .map (some mb)]⟩], Rng r mb IsLk (keyF n adr) m (x.1.map (kv adr)) :: Qs adr room st (lks n) :: F⟩) (fun x => (lks n).length - x.1.length) ⟨[], by simp, by simp⟩ (ent_ok ?_ ?_) ?_
  · simp only [sx, Nat.reduceBEq]; simp [tot]
  · intro w hw
    exact hw
  · rintro ⟨xs, hnd, hth⟩
    refine run_ok 4000 _ _ _ _ ?_; simp only [sx, Nat.reduceBEq, Nat.reduceAdd, Nat.reduceLeDiff, Nat.reduceMul, Int.toNat_natCast]
    intro a w Q he hs
    simp only [opsOf, Op.operands, sx, Nat.reduceBEq] at he
    refine wk_next he (hs.front 1 rfl) (fun h1 h2 h3 => ?_) (fun key v w1 hkey hv hnew hlt h1 h2 hw => ?_)
    · refine ⟨.v (.tuple #[.bool false]), _, _, _, rfl, rfl, rfl, hs, trivial, ?_⟩
      have hall : tot st xs = tot st (lks n) := by
        refine tot_all ⟨hnd, fun x => ⟨hth x, fun hx => ?_⟩⟩
        have := h3 (lkV x) (.pointer (some ⟨adr x, 0, none⟩)) ⟨x, rfl, fit_there hn hx⟩ (by rw [keyF_lk, hx]; rfl)
        obtain ⟨y, hy, e⟩ := List.mem_map.1 this
        rw [← lkV_inj (Prod.mk.inj e).1]; exact hy
      clear hs he
      refine run_ok 4000 _ _ _ _ ?_; simp only [sx, Nat.reduceBEq, Nat.reduceAdd, Nat.reduceLeDiff, Nat.reduceMul, Int.toNat_natCast]
      intro a w Q he hs
      simp only [opsOf, Op.operands, sx, Nat.reduceBEq] at he
      refine wk_run (v := .bool false) (w' := w) (by unfold execOp; simp [he, Instr.extract, Result.andThen]) ?_
      refine ⟨.v (.bool false), _, _, _, rfl, rfl, rfl, hs, trivial, ?_⟩
      refine run_ok 4000 _ _ _ _ ?_; simp only [sx, Nat.reduceBEq, Nat.reduceAdd, Nat.reduceLeDiff, Nat.reduceMul, Int.toNat_natCast]
      refine run_ok 4000 _ _ _ _ ?_; simp only [sx, Nat.reduceBEq, Nat.reduceAdd, Nat.reduceLeDiff, Nat.reduceMul, Int.toNat_natCast]
      intro w hs
      rw [hall]
      refine ⟨rfl, ?_⟩
      have hw : Sat E w (Mf mb IsLk (keyF n adr) :: pt b (.cells #[.int .i64 n, .map (some mb)] 115) :: Qs adr room st (lks n) :: F) := Rng_end (hs.front 1 rfl)
      exact Net_shut (mb := mb) (adr := adr) (Sat.gets hw (by repeat (first | exact Gets.nil | exact Gets.refl _ | refine Gets.get 0 rfl ?_ | refine Gets.get 1 rfl ?_ | refine Gets.get 2 rfl ?_ | refine Gets.get 3 rfl ?_ | refine Gets.get 4 rfl ?_ | refine Gets.get 5 rfl ?_ | refine Gets.get 6 rfl ?_ | refine Gets.get 7 rfl ?_ | refine Gets.get 8 rfl ?_ | refine Gets.get 9 rfl ?_ | refine Gets.drop ?_)))
    · obtain ⟨x, rfl, hx⟩ := hkey
      obtain ⟨ht, rfl⟩ := keyF_some hv
      simp only [List.eraseIdx_cons_succ, List.eraseIdx_cons_zero] at hw
      refine ⟨.t3 (.v (.bool true)) (.a [.int .i64 x.1, .int .i64 x.2.1, .int .i64 x.2.2]) (.v (.pointer (some ⟨adr x, 0, none⟩))), _, _, Rng r mb IsLk (keyF n adr) m (xs.map (kv adr) ++ [(lkV x, .pointer (some ⟨adr x, 0, none⟩))]) :: Qs adr room st (lks n) :: F, rfl, rfl, rfl, (Sat.gets hw (by repeat (first | exact Gets.nil | exact Gets.refl _ | refine Gets.get 0 rfl ?_ | refine Gets.get 1 rfl ?_ | refine Gets.get 2 rfl ?_ | refine Gets.get 3 rfl ?_ | refine Gets.get 4 rfl ?_ | refine Gets.get 5 rfl ?_ | refine Gets.get 6 rfl ?_ | refine Gets.get 7 rfl ?_ | refine Gets.get 8 rfl ?_ | refine Gets.get 9 rfl ?_ | refine Gets.drop ?_))), trivial, ?_⟩
      have hxn : x ∉ xs := fun h => hnew (by rw [List.map_map]; exact List.mem_map.2 ⟨x, h, rfl⟩)
      have hnd2 : (xs ++ [x]).Nodup := by
        rw [List.nodup_append]
        exact ⟨hnd, by simp, fun a ha b hb e => hxn (by rw [List.mem_singleton.1 hb] at e; rw [← e]; exact ha)⟩
      have hth2 : ∀ y ∈ xs ++ [x], thereB n y = true := fun y hy => by
        rcases List.mem_append.1 hy with hy | hy
        · exact hth y hy
        · rw [List.mem_singleton.1 hy]; exact ht
      have hlen := nodup_le hnd2 (r := lks n) fun y hy => mem_lks.2 (hth2 y hy)
      have htl := tot_le (st := st) (xs ++ [x]) fun y hy => hql y (mem_lks.2 (hth2 y hy))
      rw [tot_more] at htl
      rw [List.length_append, List.length_singleton] at hlen htl
      have hlm : (xs.length + 1) * 4096 ≤ 768 * 4096 := Nat.mul_le_mul_right _ (by omega)
      clear hs he hw
      refine run_ok 4000 _ _ _ _ ?_; simp only [sx, Nat.reduceBEq, Nat.reduceAdd, Nat.reduceLeDiff, Nat.reduceMul, Int.toNat_natCast]
      refine run_ok 4000 _ _ _ _ ?_; simp only [sx, Nat.reduceBEq, Nat.reduceAdd, Nat.reduceLeDiff, Nat.reduceMul, Int.toNat_natCast]
      intro a w Q he hs
      simp only [opsOf, Op.operands, sx, Nat.reduceBEq] at he
      refine wk_entry he (hs.front 1 rfl) ?_
      refine ⟨.t2 (.a [.int .i64 x.1, .int .i64 x.2.1, .int .i64 x.2.2]) (.v (.pointer (some ⟨adr x, 0, none⟩))), _, _, _, rfl, rfl, rfl, hs, trivial, ?_⟩
      clear hs he
      refine run_ok 4000 _ _ _ _ ?_; simp only [sx, Nat.reduceBEq, Nat.reduceAdd, Nat.reduceLeDiff, Nat.reduceMul, Int.toNat_natCast]
      refine call_go fun w hs => ?_
      have hq := Qs_take (nodup_lks n) (mem_lks.2 ht) (hs.front 2 rfl)
      refine (ring_len hq).mono ?_
      rintro e w2 ⟨rfl, rfl⟩
      refine ⟨.v (.int .i64 (st x).length), _, _, rfl, rfl, hs, trivial, ?_⟩
      refine run_ok 4000 _ _ _ _ ?_; simp only [sx, Nat.reduceBEq, Nat.reduceAdd, Nat.reduceLeDiff, Nat.reduceMul, Int.toNat_natCast]
      refine ⟨by rw [inR64]; omega, back_ok ⟨xs ++ [x], hnd2, hth2⟩ ?_ ?_ (by show (lks n).length - (xs ++ [x]).length < (lks n).length - xs.length; rw [List.length_append, List.length_singleton]; omega)⟩
      · simp only [sx, Nat.reduceBEq]
        simp [tot_more]
      · intro w hw
        dsimp only
        rw [List.map_append]
        exact hw
end
end Go.Proofs.Ytbkfhieadnfndaa
