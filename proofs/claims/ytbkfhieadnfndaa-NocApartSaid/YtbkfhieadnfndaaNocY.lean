/- noc.Links, noc.Len. Conditions: none. -/
import Derived.Test.YtbkfhieadnfndaaNocX
set_option linter.unusedVariables false
set_option linter.unusedSimpArgs false
namespace Go.Proofs.Ytbkfhieadnfndaa
open Go Go.RowKit Go.Sx Go.Bst
set_option maxRecDepth 100000
set_option maxHeartbeats 4000000
def cLinks : Mc := .seq (.reg [⟨some 2, .assign (.const (.slice none 0 0)), 77, none, .no⟩]) (.seq (.seq (.reg [⟨some 5, .move (.tmp 0), 78, none, .no⟩, ⟨some 6, .nilCheck (.tmp 5), 0, none, .no⟩, ⟨some 7, .fieldAddr 115 (.tmp 6) 1, 0, none, .off 1⟩, ⟨some 8, .load 113 (.tmp 7), 113, none, .one⟩, ⟨some 9, .call { callee := .value (.func 55), args := ⟨[.tmp 8]⟩, argTypes := ⟨[113]⟩ }, 123, none, .one⟩, ⟨some 10, .call { callee := .value (.func 54), args := ⟨[.tmp 9, .func 56]⟩, argTypes := ⟨[123, 125]⟩ }, 77, none, .one⟩, ⟨some 11, .call { callee := .builtin .len, args := ⟨[.tmp 10]⟩, argTypes := ⟨[77]⟩ }, 3, none, .sl 82 0⟩, ⟨some 12, .move (.const (.int .i64 0)), 3, none, .no⟩]) (.block 0 (.loop (.seq (.reg [⟨some 13, .binOp .lss 3 (.tmp 12) (.tmp 11) 3, 0, none, .no⟩]) (.seq (.cond (.tmp 13) .skip (.exit 0)) (.seq (.block 1 (.seq (.reg [⟨some 14, .indexAddr 77 (.tmp 10) (.tmp 12), 0, none, .sl 82 3⟩, ⟨some 15, .load 82 (.tmp 14), 82, none, .agg 3⟩, ⟨some 4, .alloc 82, 0, none, .cells [.int .i64 0, .int .i64 0, .int .i64 0] true⟩, ⟨none, .store 82 (.tmp 4) (.tmp 15), 0, none, .agg 3⟩]) (.seq (.dreg [(.P, ⟨some 16, .move (.tmp 0), 78, none, .no⟩), (.P, ⟨some 17, .nilCheck (.tmp 16), 0, none, .no⟩), (.P, ⟨some 18, .fieldAddr 115 (.tmp 17) 1, 0, none, .off 1⟩), (.R, ⟨some 19, .load 113 (.tmp 18), 113, none, .one⟩), (.R, ⟨some 20, .load 82 (.tmp 4), 82, none, .agg 3⟩), (.R, ⟨some 21, .lookup 113 (.tmp 19) (.tmp 20) false, 24, none, .no⟩), (.L, ⟨some 22, .call { callee := .value (.func 15), args := ⟨[.tmp 21]⟩, argTypes := ⟨[24]⟩ }, 3, none, .one⟩), (.P, ⟨some 23, .binOp .gtr 3 (.tmp 22) (.const (.int .i64 0)) 3, 4, none, .no⟩)] 1 true) (.cond (.tmp 23) (.reg [⟨some 24, .move (.tmp 2), 77, none, .no⟩, ⟨some 25, .load 82 (.tmp 4), 82, none, .agg 3⟩, ⟨some 26, .buildSlice 77 1 ⟨[(0, .tmp 25)]⟩, 77, none, .no⟩, ⟨some 27, .call { callee := .builtin .append, args := ⟨[.tmp 24, .tmp 26]⟩, argTypes := ⟨[77, 77]⟩ }, 77, none, .no⟩, ⟨some 2, .assign (.tmp 27), 77, none, .no⟩]) .skip)))) (.reg [⟨some 28, .binOp .add 3 (.tmp 12) (.const (.int .i64 1)) 3, 3, none, .no⟩, ⟨some 12, .move (.tmp 28), 3, none, .no⟩]))))))) (.seq (.reg [⟨some 29, .move (.tmp 2), 77, none, .no⟩, ⟨some 2, .assign (.tmp 29), 77, none, .no⟩]) .ret))
theorem cLinks_ok : mcOf Try.prog Try.f49.ntmps (Try.f49.body.getD .skip) = cLinks := by kernel_rfl
theorem cLinks_res : resOf Try.prog Try.f49.results.toList = some [.tmp 2] := by kernel_rfl
/-- The links that have messages. -/
def busy (st : Lk → List (Array Value)) (l : Lk) : Bool := decide (0 < ((st l).length : Int))
def linksF (n : Nat) (st : Lk → List (Array Value)) : List Lk := (lks n).filter (busy st)
theorem lkA_size (l : Lk) : (lkA l).size = 3 := rfl
section
variable {E : Env} {w : World} {F : List HP} {b n room : Nat} {st : Lk → List (Array Value)}
theorem ans_rowLdA {P : Program} {a : Act} {H : List HP} {e ty tt : TypeId} {sz n gb j cap : Nat} {xs : List Value} {x : Operand} (hw : Sat E w H) (hx : a.eval x = .pointer (some ⟨gb, j, none⟩)) (k : Nat) (hk : H[k]? = some (Row e sz (.slice (some ⟨gb, 0, none⟩) n cap) n xs))
    (m : Array Value) (ht : aggSize P ty = some m.size) (hv : ∀ r u, m.toList[r]? = some u → xs[j + r]? = some u) : Ans P (.load ty x) tt a w (.agg m) :=
  rn_load_agg rfl hx ht fun r u hu => by rw [add_at]; exact row_cell hw k hk (hv r u hu)
theorem Qs_drew {adr : Lk → Nat} {H : List HP} (h : Sat E w (Qs adr room st (lks n) :: H)) {l : Lk} (hl : l ∈ lks n) : Sat E w (Queue (adr l) room (st l) :: Qs adr room st ((lks n).erase l) :: H) := Qs_take (nodup_lks n) hl h
theorem net_links (hn : n ≤ 16) (hw : Sat E w (Net b n room st :: F)) :
    Calls Try.prog 49 #[.pointer (some ⟨b, 0, none⟩)] w fun e w' => ∃ v, e = .returned v ∧ Sat E w' (Row 82 3 v (linksF n st).length (flat ((linksF n st).map lkA)) :: Net b n room st :: F) := by
  obtain ⟨mb, adr, hw⟩ := Net_open hw
  refine calls_ok hmo Try.func49 rfl cLinks_ok cLinks_res [(0, .p 100 0)] [⟨100, b, 115, [.int .i64 n, .map (some mb)]⟩] _ hw (by exact Nat.le_of_ble_eq_true rfl) (by simp [argsOk, isV, find]) ?_
  refine run_ok 4000 _ _ _ _ ?_; simp only [cLinks, sx, Nat.reduceBEq, Nat.reduceAdd, Nat.reduceLeDiff, Nat.reduceMul, Int.toNat_natCast]
  refine call_go fun w hs => ?_
  refine (keys_of hs).mono ?_
  rintro e w ⟨Bm, rfl, hw⟩
  refine ⟨.v (.func (.func 59) #[] #[.pointer (some ⟨Bm, 0, none⟩)]), _, pt Bm (.cells #[.map (some mb)] 113 (0, 0)) :: Mf mb IsLk (keyF n adr) :: Qs adr room st (lks n) :: F, rfl, rfl, (Sat.gets hw (by repeat (first | exact Gets.nil | exact Gets.refl _ | refine Gets.get 0 rfl ?_ | refine Gets.get 1 rfl ?_ | refine Gets.get 2 rfl ?_ | refine Gets.get 3 rfl ?_ | refine Gets.get 4 rfl ?_ | refine Gets.get 5 rfl ?_ | refine Gets.get 6 rfl ?_ | refine Gets.get 7 rfl ?_ | refine Gets.get 8 rfl ?_ | refine Gets.get 9 rfl ?_ | refine Gets.drop ?_))), trivial, ?_⟩
  refine run_ok 4000 _ _ _ _ ?_; simp only [sx, Nat.reduceBEq, Nat.reduceAdd, Nat.reduceLeDiff, Nat.reduceMul, Int.toNat_natCast]
  refine call_go fun w hs => ?_
  have hw : Sat E w ([pt Bm (.cells #[.map (some mb)] 113 (0, 0)), Mf mb IsLk (keyF n adr)] ++ (pt b (.cells #[.int .i64 n, .map (some mb)] 115) :: Qs adr room st (lks n) :: F)) := by have hw := hs; exact (Sat.gets hw (by repeat (first | exact Gets.nil | exact Gets.refl _ | refine Gets.get 0 rfl ?_ | refine Gets.get 1 rfl ?_ | refine Gets.get 2 rfl ?_ | refine Gets.get 3 rfl ?_ | refine Gets.get 4 rfl ?_ | refine Gets.get 5 rfl ?_ | refine Gets.get 6 rfl ?_ | refine Gets.get 7 rfl ?_ | refine Gets.get 8 rfl ?_ | refine Gets.get 9 rfl ?_ | refine Gets.drop ?_)))
  refine (sorted_links (by kernel_rfl) hn (keys_hits hn) (Sat.fold hw)).mono ?_
  rintro e w ⟨kv, rfl, hw⟩
  have hw := (hw.front 1 rfl).flat
  simp only [List.eraseIdx_cons_succ, List.eraseIdx_cons_zero, List.cons_append, List.nil_append] at hw
  obtain ⟨A, cap, rfl, hcap, hA⟩ := Row_val hw 2 rfl
  refine ⟨.v (.slice A (lks n).length cap), _, Row 82 3 (.slice A (lks n).length cap) (lks n).length (flat ((lks n).map lkA)) :: Mf mb IsLk (keyF n adr) :: Qs adr room st (lks n) :: F, rfl, rfl, (Sat.gets hw (by repeat (first | exact Gets.nil | exact Gets.refl _ | refine Gets.get 0 rfl ?_ | refine Gets.get 1 rfl ?_ | refine Gets.get 2 rfl ?_ | refine Gets.get 3 rfl ?_ | refine Gets.get 4 rfl ?_ | refine Gets.get 5 rfl ?_ | refine Gets.get 6 rfl ?_ | refine Gets.get 7 rfl ?_ | refine Gets.get 8 rfl ?_ | refine Gets.get 9 rfl ?_ | refine Gets.drop ?_))), trivial, ?_⟩
  clear hw hs
  obtain ⟨N, hN⟩ : ∃ N, (lks n).length = N := ⟨_, rfl⟩
  rw [hN] at hA hcap ⊢
  have hN6 : N ≤ 1000000 := by
    rw [← hN, lks_len]
    have hn2 : n * n ≤ 16 * 16 := Nat.mul_le_mul hn hn
    omega
  refine run_ok 4000 _ _ _ _ ?_; simp only [sx, Nat.reduceBEq, Nat.reduceAdd, Nat.reduceLeDiff, Nat.reduceMul, Int.toNat_natCast]
  refine loop_ok (fun x : {x : Nat × Value // x.1 ≤ N} => ⟨[(0, .p 100 0), (2, .v x.1.2), (10, .v (.slice A N cap)), (11, .v (.int .i64 N)), (12, .v (.int .i64 x.1.1))], [⟨100, b, 115, [.int .i64 n, .map (some mb)]⟩], Row 82 3 x.1.2 (((lks n).take x.1.1).filter (busy st)).length (flat ((((lks n).take x.1.1).filter (busy st)).map lkA)) :: Row 82 3 (.slice A N cap) N (flat ((lks n).map lkA)) :: Mf mb IsLk (keyF n adr) :: Qs adr room st (lks n) :: F⟩) (fun x => N - x.1.1) ⟨(0, .slice none 0 0), by omega⟩ (ent_ok ?_ ?_) ?_
  · simp only [sx, Nat.reduceBEq]; rfl
  · intro w hw
    exact (Row_nil (e := 82) (sz := 3) hw).perm (List.Perm.swap _ _ _)
  · rintro ⟨⟨i, rv⟩, hi⟩
    refine run_ok 4000 _ _ _ _ ?_; simp only [sx, Nat.reduceBEq, Nat.reduceAdd, Nat.reduceLeDiff, Nat.reduceMul, Int.toNat_natCast]
    refine ⟨fun hlt => ?_, fun hge => ?_⟩
    · have hlt := of_decide_eq_true hlt
      obtain ⟨gb, rfl⟩ := hA (by omega)
      have hget : (lks n)[i]? = some ((lks n)[i]'(by omega)) := List.getElem?_eq_getElem (by omega)
      generalize (lks n)[i]'(by omega) = l at hget
      have hmem : l ∈ lks n := List.mem_of_getElem? hget
      have htl : thereB n l = true := mem_lks.1 hmem
      have hflat : ∀ r u, (lkA l).toList[r]? = some u → (flat ((lks n).map lkA))[i * 3 + r]? = some u := fun r u hu => flat_at (sz := 3) (k := i) (by intro m hm; obtain ⟨x, _, rfl⟩ := List.mem_map.1 hm; rfl) (by rw [List.getElem?_map, hget]; rfl) hu
      clear hw hs
      refine run_ok 4000 _ _ _ _ ?_; simp only [sx, Nat.reduceBEq, Nat.reduceAdd, Nat.reduceLeDiff, Nat.reduceMul, Int.toNat_natCast]
      refine ⟨⟨by omega, by omega⟩, .a [.int .i64 l.1, .int .i64 l.2.1, .int .i64 l.2.2], _, rfl, fun a w he hs => ?_, ?_⟩
      · simp only [opsOf, Op.operands, sx, Nat.reduceBEq] at he
        exact ans_rowLdA hs (he.trans (by rw [Nat.zero_add])) 2 rfl (lkA l) lk_agg hflat
      refine run_ok 4000 _ _ _ _ ?_; simp only [sx, Nat.reduceBEq, Nat.reduceAdd, Nat.reduceLeDiff, Nat.reduceMul, Int.toNat_natCast]
      intro b2
      refine ⟨.v (.pointer (some ⟨adr l, 0, none⟩)), _, rfl, fun a w he hs => ?_, ?_⟩
      · simp only [opsOf, Op.operands, sx, Nat.reduceBEq] at he
        have := ans_lookup1 (tt := 24) hs 4 rfl k_Link u_Link z_Queue he.1 (key := lkV l) he.2 ⟨l, rfl, fit_there hn htl⟩
        rw [keyF_lk, htl] at this
        exact this
      refine run_ok 4000 _ _ _ _ ?_; simp only [sx, Nat.reduceBEq, Nat.reduceAdd, Nat.reduceLeDiff, Nat.reduceMul, Int.toNat_natCast]
      refine call_go fun w hs => ?_
      have hq := Qs_take (nodup_lks n) hmem (hs.front 5 rfl)
      refine (ring_len hq).mono ?_
      rintro e w2 ⟨rfl, rfl⟩
      refine ⟨.v (.int .i64 (st l).length), _, _, rfl, rfl, hs, trivial, ?_⟩
      refine run_ok 4000 _ _ _ _ ?_; simp only [sx, Nat.reduceBEq, Nat.reduceAdd, Nat.reduceLeDiff, Nat.reduceMul, Int.toNat_natCast]
      have htake : (lks n).take (i + 1) = (lks n).take i ++ [l] := by rw [List.take_add_one, hget]; rfl
      refine ⟨fun hb => ?_, fun hb => ?_⟩
      · have hf : ((lks n).take (i + 1)).filter (busy st) = ((lks n).take i).filter (busy st) ++ [l] := by
          rw [htake, List.filter_append, List.filter_cons, if_pos (show busy st l = true from hb)]; rfl
        have hcl : (((lks n).take i).filter (busy st)).length ≤ 1000000 := by
          have h1 := List.length_filter_le (busy st) ((lks n).take i)
          have h2 := List.length_take_le i (lks n)
          have h3 : (lks n).length ≤ 1000000 := by
            rw [lks_len]
            have hn2 : n * n ≤ 16 * 16 := Nat.mul_le_mul hn hn
            omega
          have h4 : ((lks n).take i).length ≤ (lks n).length := by rw [List.length_take]; omega
          omega
        refine run_ok 4000 _ _ _ _ ?_; simp only [sx, Nat.reduceBEq, Nat.reduceAdd, Nat.reduceLeDiff, Nat.reduceMul, Int.toNat_natCast]
        intro a w Q he hs
        have he : a.eval (.tmp 25) = .agg (lkA l) := by
          simp [opsOf, Op.operands, sx] at he
          exact he
        refine wk_lit1 (el := 82) (sz := 3) (v := .agg (lkA l)) hs he u_lks (by kernel_rfl) (by kernel_rfl) rfl (by omega) (by omega) fun b3 w hw => ?_
        refine ⟨.v (.slice (some ⟨b3, 0, none⟩) 1 1), _, _, pt b3 (.cells (lkA l) 82) :: Row 82 3 rv (((lks n).take i).filter (busy st)).length (flat ((((lks n).take i).filter (busy st)).map lkA)) :: Row 82 3 (.slice (some ⟨gb, 0, none⟩) N cap) N (flat ((lks n).map lkA)) :: Mf mb IsLk (keyF n adr) :: Qs adr room st (lks n) :: F, rfl, rfl, rfl, (Sat.gets hw (by repeat (first | exact Gets.nil | exact Gets.refl _ | refine Gets.get 0 rfl ?_ | refine Gets.get 1 rfl ?_ | refine Gets.get 2 rfl ?_ | refine Gets.get 3 rfl ?_ | refine Gets.get 4 rfl ?_ | refine Gets.get 5 rfl ?_ | refine Gets.get 6 rfl ?_ | refine Gets.get 7 rfl ?_ | refine Gets.get 8 rfl ?_ | refine Gets.get 9 rfl ?_ | refine Gets.drop ?_))), trivial, ?_⟩
        refine run_ok 4000 _ _ _ _ ?_; simp only [sx, Nat.reduceBEq, Nat.reduceAdd, Nat.reduceLeDiff, Nat.reduceMul, Int.toNat_natCast]
        intro a w Q he hs
        simp only [opsOf, Op.operands, sx, Nat.reduceBEq] at he
        refine wk_append (n := (((lks n).take i).filter (busy st)).length) (m := 1) (news := (lkA l).toList) hs 3 rfl he.1 he.2 (Rd_blk hs 2 rfl (n := 1) (Nat.le_refl _) (lkA l).toList rfl rfl) u_lks lk_info rfl (by omega) (lk_mem l) (by simp only [maxLen]; omega) (by omega) fun v' w hw hv => ?_
        simp only [List.set_cons_succ, List.set_cons_zero] at hw
        rw [← flat_one (lkA l), ← flat_app, show (((lks n).take i).filter (busy st)).map lkA ++ [lkA l] = (((lks n).take (i + 1)).filter (busy st)).map lkA from by rw [hf, List.map_append]; rfl, show (((lks n).take i).filter (busy st)).length + 1 = (((lks n).take (i + 1)).filter (busy st)).length from by rw [hf, List.length_append]; rfl] at hw
        refine ⟨.v v', _, _, Row 82 3 v' (((lks n).take (i + 1)).filter (busy st)).length (flat ((((lks n).take (i + 1)).filter (busy st)).map lkA)) :: Row 82 3 (.slice (some ⟨gb, 0, none⟩) N cap) N (flat ((lks n).map lkA)) :: Mf mb IsLk (keyF n adr) :: Qs adr room st (lks n) :: F, rfl, rfl, rfl, (Sat.gets hw (by repeat (first | exact Gets.nil | exact Gets.refl _ | refine Gets.get 0 rfl ?_ | refine Gets.get 1 rfl ?_ | refine Gets.get 2 rfl ?_ | refine Gets.get 3 rfl ?_ | refine Gets.get 4 rfl ?_ | refine Gets.get 5 rfl ?_ | refine Gets.get 6 rfl ?_ | refine Gets.get 7 rfl ?_ | refine Gets.get 8 rfl ?_ | refine Gets.get 9 rfl ?_ | refine Gets.drop ?_))), trivial, ?_⟩
        refine run_ok 4000 _ _ _ _ ?_; simp only [sx, Nat.reduceBEq, Nat.reduceAdd, Nat.reduceLeDiff, Nat.reduceMul, Int.toNat_natCast]
        refine ⟨by rw [inR64]; omega, back_ok ⟨(i + 1, v'), by show i + 1 ≤ N; omega⟩ ?_ ?_ (by show N - (i + 1) < N - i; omega)⟩
        · simp only [sx, Nat.reduceBEq]
          simp
        · intro w hw
          exact (Sat.gets hw (by repeat (first | exact Gets.nil | exact Gets.refl _ | refine Gets.get 0 rfl ?_ | refine Gets.get 1 rfl ?_ | refine Gets.get 2 rfl ?_ | refine Gets.get 3 rfl ?_ | refine Gets.get 4 rfl ?_ | refine Gets.get 5 rfl ?_ | refine Gets.get 6 rfl ?_ | refine Gets.get 7 rfl ?_ | refine Gets.get 8 rfl ?_ | refine Gets.get 9 rfl ?_ | refine Gets.drop ?_)))
      · have hf : ((lks n).take (i + 1)).filter (busy st) = ((lks n).take i).filter (busy st) := by
          rw [htake, List.filter_append, List.filter_cons, if_neg (by rw [show busy st l = false from hb]; simp)]; simp
        refine run_ok 4000 _ _ _ _ ?_; simp only [sx, Nat.reduceBEq, Nat.reduceAdd, Nat.reduceLeDiff, Nat.reduceMul, Int.toNat_natCast]
        refine ⟨by rw [inR64]; omega, back_ok ⟨(i + 1, rv), by show i + 1 ≤ N; omega⟩ ?_ ?_ (by show N - (i + 1) < N - i; omega)⟩
        · simp only [sx, Nat.reduceBEq]
          simp
        · intro w hw
          dsimp only
          rw [hf]
          exact (Sat.gets hw (by repeat (first | exact Gets.nil | exact Gets.refl _ | refine Gets.get 0 rfl ?_ | refine Gets.get 1 rfl ?_ | refine Gets.get 2 rfl ?_ | refine Gets.get 3 rfl ?_ | refine Gets.get 4 rfl ?_ | refine Gets.get 5 rfl ?_ | refine Gets.get 6 rfl ?_ | refine Gets.get 7 rfl ?_ | refine Gets.get 8 rfl ?_ | refine Gets.get 9 rfl ?_ | refine Gets.drop ?_)))
    · have hge : i = N := by have := of_decide_eq_false hge; dsimp only at hi; omega
      subst hge
      refine run_ok 4000 _ _ _ _ ?_; simp only [sx, Nat.reduceBEq, Nat.reduceAdd, Nat.reduceLeDiff, Nat.reduceMul, Int.toNat_natCast]
      intro w hw
      rw [List.take_of_length_le (by omega)] at hw
      refine ⟨rv, rfl, ?_⟩
      refine Sat.perm (Net_shut (mb := mb) (adr := adr) (F := Row 82 3 rv (linksF n st).length (flat ((linksF n st).map lkA)) :: F) ?_) (List.Perm.swap _ _ _)
      have hw : Sat E w (pt b (.cells #[.int .i64 n, .map (some mb)] 115) :: Row 82 3 rv (linksF n st).length (flat ((linksF n st).map lkA)) :: Row 82 3 (.slice A i cap) i (flat ((lks n).map lkA)) :: Mf mb IsLk (keyF n adr) :: Qs adr room st (lks n) :: F) := hw
      exact (Sat.gets hw (by repeat (first | exact Gets.nil | exact Gets.refl _ | refine Gets.get 0 rfl ?_ | refine Gets.get 1 rfl ?_ | refine Gets.get 2 rfl ?_ | refine Gets.get 3 rfl ?_ | refine Gets.get 4 rfl ?_ | refine Gets.get 5 rfl ?_ | refine Gets.get 6 rfl ?_ | refine Gets.get 7 rfl ?_ | refine Gets.get 8 rfl ?_ | refine Gets.get 9 rfl ?_ | refine Gets.drop ?_)))
end
end Go.Proofs.Ytbkfhieadnfndaa
