/- The document's log: what it does, function by function. Conditions: none. -/
import Derived.Test.YtbkfhieadnfndaaTrS
set_option linter.unusedVariables false
set_option linter.unusedSimpArgs false
namespace Go.Proofs.Ytbkfhieadnfndaa
open Go.RowKit Go.Bst Go.MapKept
attribute [local irreducible] wpList Calls Code.wp Code.wpN Oper.wp Go.Proofs.YtbkfhieadnfndaaW.PrintLast.wpAnyLast

/-- In which turn an entry was ended: 0: it isn't. -/
def turnOf (ended : List Nat) (i : Nat) : Nat := match ended.idxOf? i with | some j => j + 1 | none => 0
def turns (n : Nat) (ended : List Nat) : List Nat := (List.range n).map (turnOf ended)
theorem turns_len (n : Nat) (ended : List Nat) : (turns n ended).length = n := by simp [turns]
theorem turnOf_none {ended : List Nat} {i : Nat} (h : i ∉ ended) : turnOf ended i = 0 := by
  unfold turnOf
  rw [List.idxOf?_eq_none_iff.2 h]
theorem turns_succ {n : Nat} {ended : List Nat} (h : n ∉ ended) : turns (n + 1) ended = turns n ended ++ [0] := by
  unfold turns
  rw [List.range_succ, List.map_append]
  simp [turnOf_none h]
def RLog (r : Nat) (cores : Int) (es : List Ent) (ended : List Nat) : HP := exH fun v1 => exH fun v2 =>
  star [pt r (.cells #[.int .i64 cores, v1, v2, .int .i64 ended.length] 56 (0, 0)), Row 67 10 v1 es.length (cells es), Row 3 1 v2 es.length (ints (turns es.length ended))]
section
variable {E : Env} {w : World} {r : Nat} {cores : Int} {es : List Ent} {ended : List Nat} {F : List HP}
theorem RLog_open (h : Sat E w (RLog r cores es ended :: F)) : ∃ v1 v2, Sat E w (pt r (.cells #[.int .i64 cores, v1, v2, .int .i64 ended.length] 56 (0, 0)) :: Row 67 10 v1 es.length (cells es) :: Row 3 1 v2 es.length (ints (turns es.length ended)) :: F) := by
  obtain ⟨v1, h2⟩ := h.ex
  obtain ⟨v2, h2⟩ := h2.ex
  exact ⟨v1, v2, h2.flat⟩
theorem RLog_shut {v1 v2 : Value} (h : Sat E w (pt r (.cells #[.int .i64 cores, v1, v2, .int .i64 ended.length] 56 (0, 0)) :: Row 67 10 v1 es.length (cells es) :: Row 3 1 v2 es.length (ints (turns es.length ended)) :: F)) :
    Sat E w (RLog r cores es ended :: F) := Sat.ex_mk v1 (Sat.ex_mk v2 (Sat.fold (K := [_, _, _]) h))

def idxOr (o : Option Nat) : Int := match o with | some i => i | none => -1
set_option maxRecDepth 100000 in
set_option maxHeartbeats 800000 in
theorem ref_open {c : Int} {k1 k2 : Nat} {v1 v2 v3 : Value} {T : TypeId} {fr : Nat × Nat} (hw : Sat E w F) (h1 : F[k1]? = some (pt r (.cells #[.int .i64 cores, v1, v2, v3] T fr))) (h2 : F[k2]? = some (Row 67 10 v1 es.length (cells es))) (hl : es.length ≤ 1000000) :
    Calls Try.prog 31 #[.pointer (some ⟨r, 0, none⟩), .int .i64 c] w fun e w' => e = .returned (.int .i64 (idxOr (openOf es c))) ∧ w' = w := by
  obtain ⟨A, cap, rfl, hc, hg⟩ := Row_val hw k2 h2
  go_enter Try.func31, Try.ntmps31
  go_wp2
  go_loopw [5] (fun i wr => ∃ k : Nat, k ≤ es.length ∧ i = .int .i64 k ∧ wr = w ∧ Kp (∀ (j : Nat) (x : Ent), j < k → es[j]? = some x → openAt c x = false)) (fun i _ => es.length - (intOf i).toNat)
  case atStart => exact ⟨0, by omega, rfl, rfl, Kp.mk (fun j x hj => absurd hj (Nat.not_lt_zero _))⟩
  case round =>
    obtain ⟨k, hk, rfl, rfl, hb⟩ := hrel
    by_cases hlt : k < es.length
    · obtain ⟨e, he⟩ : ∃ e, es[k]? = some e := ⟨_, List.getElem?_eq_getElem hlt⟩
      obtain ⟨g, rfl⟩ := hg (by omega)
      clear hg
      have hlt' : (k : Int) < (es.length : Int) := by omega
      have hk0 : (k : Int) + 1 ≤ 9223372036854775807 := by omega
      have l0 := cells_get he 0 _ rfl
      have l8 := cells_get he 8 _ rfl
      have arms : True := trivial
      by_cases hcore : e.core = c
      · have hc1 : (e.core == c) = true := by rw [beq_iff_eq]; exact hcore
        cases hd : e.done with
        | true =>
          rw [hd] at l8
          go_wp2_with (first
            | (refine wl_want (by rfl) (fun K hK => ?_); refine wk_rowLd1 (j := k * 10 + 0) hw rfl rfl k2 h2 (by kernel_rfl) (.int .i64 e.core) l0 ?_; refine hK _ _ ?_; clear hK K)
            | (refine wl_want (by rfl) (fun K hK => ?_); refine wk_rowLd1 (j := k * 10 + 8) hw rfl rfl k2 h2 (by kernel_rfl) (.bool true) l8 ?_; refine hK _ _ ?_; clear hK K)
            | (refine wl_want (by rfl) (fun K hK => ?_); refine wk_rowIdx k (k * 10) rfl hw rfl rfl k2 h2 u_ents ent_size hlt ?_; refine hK _ _ ?_; clear hK K)
            | (refine wl_want (by rfl) (fun K hK => ?_); refine wk_load1 hw rfl k1 h1 (by kernel_rfl) (by simp only [List.getElem?_toArray, List.getElem?_cons_succ, List.getElem?_cons_zero]; exact rfl) ?_; refine hK _ _ ?_; clear hK K))
          go_roundw
          case rel => exact ⟨k + 1, by omega, by go_num, trivial, Kp.mk (fun j x hj hx => by
            rcases Nat.lt_or_ge j k with q | q
            · exact hb.out j x q hx
            · obtain rfl : j = k := by omega
              rw [he] at hx; injection hx with hx; subst hx; simp [openAt, hd])⟩
          case measure => simp [intOf]; omega
        | false =>
          rw [hd] at l8
          have hfin := Kp.mk (openOf_first he (by simp [openAt, hcore, hd]) hb.out)
          go_wp2_with (first
            | (refine wl_want (by rfl) (fun K hK => ?_); refine wk_rowLd1 (j := k * 10 + 0) hw rfl rfl k2 h2 (by kernel_rfl) (.int .i64 e.core) l0 ?_; refine hK _ _ ?_; clear hK K)
            | (refine wl_want (by rfl) (fun K hK => ?_); refine wk_rowLd1 (j := k * 10 + 8) hw rfl rfl k2 h2 (by kernel_rfl) (.bool false) l8 ?_; refine hK _ _ ?_; clear hK K)
            | (refine wl_want (by rfl) (fun K hK => ?_); refine wk_rowIdx k (k * 10) rfl hw rfl rfl k2 h2 u_ents ent_size hlt ?_; refine hK _ _ ?_; clear hK K)
            | (refine wl_want (by rfl) (fun K hK => ?_); refine wk_load1 hw rfl k1 h1 (by kernel_rfl) (by simp only [List.getElem?_toArray, List.getElem?_cons_succ, List.getElem?_cons_zero]; exact rfl) ?_; refine hK _ _ ?_; clear hK K))
          go_ret
          exact ⟨by rw [hfin.out]; rfl, rfl⟩
      · have hc1 : (e.core == c) = false := by rw [beq_eq_false_iff_ne]; exact hcore
        go_wp2_with (first
            | (refine wl_want (by rfl) (fun K hK => ?_); refine wk_rowLd1 (j := k * 10 + 0) hw rfl rfl k2 h2 (by kernel_rfl) (.int .i64 e.core) l0 ?_; refine hK _ _ ?_; clear hK K)
            | (refine wl_want (by rfl) (fun K hK => ?_); refine wk_rowLd1 (j := k * 10 + 8) hw rfl rfl k2 h2 (by kernel_rfl) (.bool e.done) l8 ?_; refine hK _ _ ?_; clear hK K)
            | (refine wl_want (by rfl) (fun K hK => ?_); refine wk_rowIdx k (k * 10) rfl hw rfl rfl k2 h2 u_ents ent_size hlt ?_; refine hK _ _ ?_; clear hK K)
            | (refine wl_want (by rfl) (fun K hK => ?_); refine wk_load1 hw rfl k1 h1 (by kernel_rfl) (by simp only [List.getElem?_toArray, List.getElem?_cons_succ, List.getElem?_cons_zero]; exact rfl) ?_; refine hK _ _ ?_; clear hK K))
        go_roundw
        case rel => exact ⟨k + 1, by omega, by go_num, trivial, Kp.mk (fun j x hj hx => by
            rcases Nat.lt_or_ge j k with q | q
            · exact hb.out j x q hx
            · obtain rfl : j = k := by omega
              rw [he] at hx; injection hx with hx; subst hx; simp [openAt, hc1])⟩
        case measure => simp [intOf]; omega
    · have hkl : k = es.length := by omega
      subst hkl
      have hfin := Kp.mk (openOf_no hb.out)
      go_wp2_with (refine wl_want (by rfl) (fun K hK => ?_); refine wk_load1 hw rfl k1 h1 (by kernel_rfl) (by simp only [List.getElem?_toArray, List.getElem?_cons_succ, List.getElem?_cons_zero]; exact rfl) ?_; refine hK _ _ ?_; clear hK K)
      go_ret
      exact ⟨by rw [hfin.out]; rfl, rfl⟩

set_option maxRecDepth 100000 in
set_option maxHeartbeats 800000 in
theorem ref_begin_range {c at' : Int} {op : Array Value} (hw : Sat E w (RLog r cores es ended :: F)) (hc : c < 0 ∨ (0 ≤ c ∧ cores ≤ c)) :
    Calls Try.prog 29 #[.pointer (some ⟨r, 0, none⟩), .int .i64 c, .agg op, .int .i64 at'] w fun e w' => e = .returned (.int .i64 2) ∧ Sat E w' (RLog r cores es ended :: F) := by
  obtain ⟨v1, v2, hw⟩ := RLog_open hw
  rcases hc with hc | ⟨h0, hc⟩
  · go_enter Try.func29, Try.ntmps29
    go_wp2_with (refine wl_box hw _ (by simp only [Act.eval, Act.put, List.setIfInBounds_toArray, List.set_cons_succ, List.set_cons_zero, gd_s, gd_0, Value.cells]; exact rfl) ?_; clear hw; intro b w hw; (try simp only [List.set_cons_succ, List.set_cons_zero, List.setIfInBounds_toArray, Value.cells, List.eraseIdx_cons_succ, List.eraseIdx_cons_zero] at hw))
    go_ret
    exact ⟨rfl, RLog_shut hw.tail⟩
  · have hn : ¬ c < 0 := by omega
    go_enter Try.func29, Try.ntmps29
    go_wp2_with (first
      | (refine wl_box hw _ (by simp only [Act.eval, Act.put, List.setIfInBounds_toArray, List.set_cons_succ, List.set_cons_zero, gd_s, gd_0, Value.cells]; exact rfl) ?_; clear hw; intro b w hw; (try simp only [List.set_cons_succ, List.set_cons_zero, List.setIfInBounds_toArray, Value.cells, List.eraseIdx_cons_succ, List.eraseIdx_cons_zero] at hw))
      | (refine wl_want (by rfl) (fun K hK => ?_); refine wk_load1 hw rfl 1 rfl (by kernel_rfl) (by simp only [List.getElem?_toArray, List.getElem?_cons_succ, List.getElem?_cons_zero]; exact rfl) ?_; refine hK _ _ ?_; clear hK K))
    go_ret
    exact ⟨rfl, RLog_shut hw.tail⟩
set_option maxRecDepth 100000 in
set_option maxHeartbeats 800000 in
theorem ref_begin_busy {c at' : Int} {op : Array Value} {i : Nat} (hw : Sat E w (RLog r cores es ended :: F)) (hc : 0 ≤ c ∧ c < cores) (hi : openOf es c = some i) (hl : es.length ≤ 1000000) :
    Calls Try.prog 29 #[.pointer (some ⟨r, 0, none⟩), .int .i64 c, .agg op, .int .i64 at'] w fun e w' => e = .returned (.int .i64 7) ∧ Sat E w' (RLog r cores es ended :: F) := by
  obtain ⟨v1, v2, hw⟩ := RLog_open hw
  have hge : (0 : Int) ≤ (i : Int) := by omega
  have hn : ¬ c < 0 := by omega
  go_enter Try.func29, Try.ntmps29
  go_wp2_with (first
    | (refine wl_box hw _ (by simp only [Act.eval, Act.put, List.setIfInBounds_toArray, List.set_cons_succ, List.set_cons_zero, gd_s, gd_0, Value.cells]; exact rfl) ?_; clear hw; intro b w hw; (try simp only [List.set_cons_succ, List.set_cons_zero, List.setIfInBounds_toArray, Value.cells, List.eraseIdx_cons_succ, List.eraseIdx_cons_zero] at hw))
    | (refine wl_want (by rfl) (fun K hK => ?_); refine wk_load1 hw rfl 1 rfl (by kernel_rfl) (by simp only [List.getElem?_toArray, List.getElem?_cons_succ, List.getElem?_cons_zero]; exact rfl) ?_; refine hK _ _ ?_; clear hK K)
    | (go_at_call 31; go_must (refine (ref_open (k1 := 1) (k2 := 2) hw rfl rfl hl).mono ?_); rw [hi]; rintro e w1 ⟨rfl, e1⟩; replace e1 := e1.symm; subst e1; simp only [idxOr]))
  go_ret
  exact ⟨rfl, RLog_shut hw.tail⟩

set_option maxRecDepth 100000 in
set_option maxHeartbeats 1600000 in
theorem ref_begin {c k a n v w' at' : Int} (hw : Sat E w (RLog r cores es ended :: F)) (hc : 0 ≤ c ∧ c < cores) (hi : openOf es c = none) (hnd : es.length ∉ ended) (hl : es.length ≤ 1000000) :
    Calls Try.prog 29 #[.pointer (some ⟨r, 0, none⟩), .int .i64 c, .agg (opcs k a n v w'), .int .i64 at'] w fun e w1 => e = .returned (.int .i64 0) ∧ Sat E w1 (RLog r cores (es ++ [Ent.mk c k a n v w' at' 0 false 0]) ended :: F) := by
  obtain ⟨v1, v2, hw⟩ := RLog_open hw
  have hn : ¬ c < 0 := by omega
  obtain ⟨A1, c1, rfl, hc1, hg1⟩ := Row_val hw 1 rfl
  obtain ⟨A2, c2, rfl, hc2, hg2⟩ := Row_val hw 2 rfl
  clear hc1 hg1 hc2 hg2
  have Hnd := Kp.mk hnd
  clear hnd
  go_enter Try.func29, Try.ntmps29
  go_wp2_with (first
    | (refine wl_box hw _ (by simp only [Act.eval, Act.put, List.setIfInBounds_toArray, List.set_cons_succ, List.set_cons_zero, gd_s, gd_0, Value.cells]; exact rfl) ?_; clear hw; intro b w hw; (try simp only [List.set_cons_succ, List.set_cons_zero, List.setIfInBounds_toArray, Value.cells, List.eraseIdx_cons_succ, List.eraseIdx_cons_zero] at hw))
    | (refine wl_want (by rfl) (fun K hK => ?_); refine wk_load1 hw rfl 1 rfl (by kernel_rfl) (by simp only [List.getElem?_toArray, List.getElem?_cons_succ, List.getElem?_cons_zero]; exact rfl) ?_; refine hK _ _ ?_; clear hK K)
    | (go_at_call 31; go_must (refine (ref_open (k1 := 1) (k2 := 2) hw rfl rfl hl).mono ?_); rw [hi]; rintro e w1 ⟨rfl, e1⟩; replace e1 := e1.symm; subst e1; simp only [idxOr]))
  refine Go.Proofs.YtbkfhieadnfndaaW.PrintLast.start_ (S := (fun w1 => w1.heap[b]? = some (.cells #[.int .i64 k, .int .i64 a, .int .i64 n, .int .u64 v, .int .u64 w'] 59 (0, 0)) ∧ w1.heap[r]? = some (.cells #[.int .i64 cores, .slice A1 es.length c1, .slice A2 es.length c2, .int .i64 ended.length] 56 (0, 0)))) (ds := [13]) #[false, false, false, false, false, false, false, false, false, false, false, false, false, false] (by kernel_rfl) rfl (by rfl) ?_ (fun hS => ?_)
  · exact ⟨hw.drew.read 0 rfl, hw.drew.read 1 rfl⟩
  replace hw := hw.drew; generalize w.drew = w at hw hS ⊢
  refine pureE (i := 0) (oi := { dst := some 23, op := Op.move (Operand.tmp 0), type := 52, pos := "ref.go:39", after := #[], guard := none }) (N := some 23) #[true, false, false, false, false, false, false, false, false, false, false, false, false, false] rfl rfl (by kernel_rfl) (fun _ _ _ _ h => h) ?_
  apply Exists.intro
  refine ⟨Or.inl ⟨by rfl, ?_⟩, ?_⟩
  · intro w0; go_simp; try with_reducible rfl
  try simp only [Act.put, List.setIfInBounds_toArray, List.set_cons_succ, List.set_cons_zero]
  refine pureE (i := 1) (oi := { dst := some 24, op := Op.move (Operand.tmp 0), type := 52, pos := "ref.go:39", after := #[], guard := none }) (N := some 24) #[true, true, false, false, false, false, false, false, false, false, false, false, false, false] rfl rfl (by kernel_rfl) (fun _ _ _ _ h => h) ?_
  apply Exists.intro
  refine ⟨Or.inl ⟨by rfl, ?_⟩, ?_⟩
  · intro w0; go_simp; try with_reducible rfl
  try simp only [Act.put, List.setIfInBounds_toArray, List.set_cons_succ, List.set_cons_zero]
  refine pureE (i := 2) (oi := { dst := some 25, op := Op.nilCheck (Operand.tmp 24), type := 0, pos := "ref.go:39", after := #[{ on := 1, ground := Ground.data }], guard := none }) (N := some 25) #[true, true, true, false, false, false, false, false, false, false, false, false, false, false] rfl rfl (by kernel_rfl) (fun _ _ _ _ h => h) ?_
  apply Exists.intro
  refine ⟨Or.inl ⟨by rfl, ?_⟩, ?_⟩
  · intro w0; go_simp; try with_reducible rfl
  try simp only [Act.put, List.setIfInBounds_toArray, List.set_cons_succ, List.set_cons_zero]
  refine pureE (i := 3) (oi := { dst := some 26, op := Op.fieldAddr 56 (Operand.tmp 25) 1, type := 0, pos := "ref.go:39", after := #[{ on := 2, ground := Ground.data }], guard := none }) (N := some 26) #[true, true, true, true, false, false, false, false, false, false, false, false, false, false] rfl rfl (by kernel_rfl) (fun _ _ _ _ h => h) ?_
  apply Exists.intro
  refine ⟨Or.inl ⟨by rfl, ?_⟩, ?_⟩
  · intro w0; go_simp; try with_reducible rfl
  try simp only [Act.put, List.setIfInBounds_toArray, List.set_cons_succ, List.set_cons_zero]
  refine pureE (i := 5) (oi := { dst := some 28, op := Op.move (Operand.tmp 1), type := 3, pos := "ref.go:39", after := #[], guard := none }) (N := some 28) #[true, true, true, true, false, true, false, false, false, false, false, false, false, false] rfl rfl (by kernel_rfl) (fun _ _ _ _ h => h) ?_
  apply Exists.intro
  refine ⟨Or.inl ⟨by rfl, ?_⟩, ?_⟩
  · intro w0; go_simp; try with_reducible rfl
  try simp only [Act.put, List.setIfInBounds_toArray, List.set_cons_succ, List.set_cons_zero]
  refine pureE (i := 7) (oi := { dst := some 30, op := Op.move (Operand.tmp 3), type := 3, pos := "ref.go:39", after := #[], guard := none }) (N := some 30) #[true, true, true, true, false, true, false, true, false, false, false, false, false, false] rfl rfl (by kernel_rfl) (fun _ _ _ _ h => h) ?_
  apply Exists.intro
  refine ⟨Or.inl ⟨by rfl, ?_⟩, ?_⟩
  · intro w0; go_simp; try with_reducible rfl
  try simp only [Act.put, List.setIfInBounds_toArray, List.set_cons_succ, List.set_cons_zero]
  refine takeE (i := 4) (oi := { dst := some 27, op := Op.load 53 (Operand.tmp 26), type := 53, pos := "ref.go:39", after := #[{ on := 3, ground := Ground.data }], guard := none }) (N := some 27) #[true, true, true, true, true, true, false, true, false, false, false, false, false, false] rfl rfl (by kernel_rfl) (fun _ _ _ _ h => h) hS ?_
  apply Exists.intro
  refine ⟨Or.inl ⟨by rfl, fun w0 h => rn_blk1 (v := .slice A1 es.length c1) rfl rfl (by kernel_rfl) h.2 rfl⟩, ?_⟩
  try simp only [Act.put, List.setIfInBounds_toArray, List.set_cons_succ, List.set_cons_zero]
  refine takeE (i := 6) (oi := { dst := some 29, op := Op.load 59 (Operand.tmp 6), type := 59, pos := "ref.go:39", after := #[], guard := none }) (N := some 29) #[true, true, true, true, true, true, true, true, false, false, false, false, false, false] rfl rfl (by kernel_rfl) (fun _ _ _ _ h => h) hS ?_
  apply Exists.intro
  refine ⟨Or.inl ⟨by rfl, fun w0 h => rn_blkA (cs := #[.int .i64 k, .int .i64 a, .int .i64 n, .int .u64 v, .int .u64 w']) rfl rfl op_agg h.1⟩, ?_⟩
  try simp only [Act.put, List.setIfInBounds_toArray, List.set_cons_succ, List.set_cons_zero]
  refine pureE (i := 8) (oi := { dst := some 31, op := Op.build 67 #[(0, Operand.tmp 28), (1, Operand.tmp 29), (2, Operand.tmp 30)], type := 67, pos := "ref.go:39", after := #[{ on := 5, ground := Ground.data }, { on := 6, ground := Ground.data }, { on := 7, ground := Ground.data }], guard := none }) (N := some 31) #[true, true, true, true, true, true, true, true, true, false, false, false, false, false] rfl rfl (by kernel_rfl) (fun _ _ _ _ h => h) ?_
  apply Exists.intro
  refine ⟨Or.inl ⟨by rfl, ?_⟩, ?_⟩
  · intro w0; go_simp; try with_reducible rfl
  try simp only [Act.put, List.setIfInBounds_toArray, List.set_cons_succ, List.set_cons_zero]
  refine Go.Proofs.YtbkfhieadnfndaaW.PrintLast.one_ (i := 9) (oi := { dst := some 32, op := Op.buildSlice 53 1 #[(0, Operand.tmp 31)], type := 53, pos := "ref.go:39", after := #[{ on := 8, ground := Ground.data }], guard := none }) (N := some 32) #[true, true, true, true, true, true, true, true, true, true, false, false, false, false] rfl rfl (by kernel_rfl) (by decide) (fun K hK => ?_)
  rw [if_pos (by rfl)]
  refine wk_lit1 (el := 67) (sz := 10) (v := .agg (Ent.mk c k a n v w' at' 0 false 0).cs) hw (by simp only [Act.eval, Act.put, List.setIfInBounds_toArray, List.set_cons_succ, List.set_cons_zero, gd_s, gd_0, Value.cells]; exact rfl) (by kernel_rfl) (by kernel_rfl) (by kernel_rfl) rfl (by omega) (by omega) ?_
  clear hw; intro b2 w hw; (try simp only [List.set_cons_succ, List.set_cons_zero, List.setIfInBounds_toArray, Value.cells, List.eraseIdx_cons_succ, List.eraseIdx_cons_zero] at hw)
  refine hK.out _ _ ⟨hw.read 1 rfl, hw.read 2 rfl⟩ (fun hS => ?_); clear hK K; try simp only [Act.put, List.setIfInBounds_toArray, List.set_cons_succ, List.set_cons_zero]
  refine Go.Proofs.YtbkfhieadnfndaaW.PrintLast.one_ (i := 10) (oi := { dst := some 33, op := Op.call { callee := Callee.builtin Builtin.append, args := #[Operand.tmp 27, Operand.tmp 32], argTypes := #[53, 53] }, type := 53, pos := "ref.go:39", after := #[{ on := 4, ground := Ground.data }, { on := 9, ground := Ground.data }], guard := none }) (N := some 33) #[true, true, true, true, true, true, true, true, true, true, true, false, false, false] rfl rfl (by kernel_rfl) (by decide) (fun K hK => ?_)
  rw [if_pos (by rfl)]
  refine wk_append hw 3 rfl rfl rfl (Rd_blk hw 0 rfl (n := 1) (Nat.le_refl _) (Ent.mk c k a n v w' at' 0 false 0).cs.toList rfl rfl) u_ents ent_info rfl (by omega) (Ent.mem _) (by simp only [maxLen]; omega) (by omega) ?_
  clear hw; intro vv w hw hv; clear hv; (try simp only [List.set_cons_succ, List.set_cons_zero, List.setIfInBounds_toArray, Value.cells, List.eraseIdx_cons_succ, List.eraseIdx_cons_zero] at hw); obtain ⟨A', c', rfl, hc', _⟩ := Row_val hw 3 rfl
  refine hK.out _ _ ⟨hw.read 1 rfl, hw.read 2 rfl⟩ (fun hS => ?_); clear hK K; try simp only [Act.put, List.setIfInBounds_toArray, List.set_cons_succ, List.set_cons_zero]
  refine pureE (i := 11) (oi := { dst := some 34, op := Op.nilCheck (Operand.tmp 23), type := 0, pos := "ref.go:39", after := #[{ on := 0, ground := Ground.data }, { on := 0, ground := Ground.phase }, { on := 1, ground := Ground.phase }, { on := 2, ground := Ground.phase }, { on := 3, ground := Ground.phase }, { on := 4, ground := Ground.phase }, { on := 5, ground := Ground.phase }, { on := 6, ground := Ground.phase }, { on := 7, ground := Ground.phase }, { on := 8, ground := Ground.phase }, { on := 9, ground := Ground.phase }, { on := 10, ground := Ground.phase }], guard := none }) (N := some 34) #[true, true, true, true, true, true, true, true, true, true, true, true, false, false] rfl rfl (by kernel_rfl) (fun _ _ _ _ h => h) ?_
  apply Exists.intro
  refine ⟨Or.inl ⟨by rfl, ?_⟩, ?_⟩
  · intro w0; go_simp; try with_reducible rfl
  try simp only [Act.put, List.setIfInBounds_toArray, List.set_cons_succ, List.set_cons_zero]
  refine pureE (i := 12) (oi := { dst := some 35, op := Op.fieldAddr 56 (Operand.tmp 34) 1, type := 0, pos := "ref.go:39", after := #[{ on := 11, ground := Ground.data }, { on := 0, ground := Ground.phase }, { on := 1, ground := Ground.phase }, { on := 2, ground := Ground.phase }, { on := 3, ground := Ground.phase }, { on := 4, ground := Ground.phase }, { on := 5, ground := Ground.phase }, { on := 6, ground := Ground.phase }, { on := 7, ground := Ground.phase }, { on := 8, ground := Ground.phase }, { on := 9, ground := Ground.phase }, { on := 10, ground := Ground.phase }], guard := none }) (N := some 35) #[true, true, true, true, true, true, true, true, true, true, true, true, true, false] rfl rfl (by kernel_rfl) (fun _ _ _ _ h => h) ?_
  apply Exists.intro
  refine ⟨Or.inl ⟨by rfl, ?_⟩, ?_⟩
  · intro w0; go_simp; try with_reducible rfl
  try simp only [Act.put, List.setIfInBounds_toArray, List.set_cons_succ, List.set_cons_zero]
  refine Go.Proofs.YtbkfhieadnfndaaW.PrintLast.last_ (i := 13) (oi := { dst := none, op := Op.store 53 (Operand.tmp 35) (Operand.tmp 33), type := 0, pos := "ref.go:39", after := #[{ on := 12, ground := Ground.data }, { on := 10, ground := Ground.data }, { on := 10, ground := Ground.chain }, { on := 0, ground := Ground.phase }, { on := 1, ground := Ground.phase }, { on := 2, ground := Ground.phase }, { on := 3, ground := Ground.phase }, { on := 4, ground := Ground.phase }, { on := 5, ground := Ground.phase }, { on := 6, ground := Ground.phase }, { on := 7, ground := Ground.phase }, { on := 8, ground := Ground.phase }, { on := 9, ground := Ground.phase }, { on := 10, ground := Ground.phase }], guard := none }) (N := none) #[true, true, true, true, true, true, true, true, true, true, true, true, true, true] rfl rfl (by kernel_rfl) (by decide) (fun K hK => ?_)
  rw [if_pos (by rfl)]
  refine wk_store1 hw rfl 2 rfl (.slice A' _ c') rfl (by kernel_rfl) (by simp) rfl ?_
  clear hw; intro w hw; (try simp only [List.set_cons_succ, List.set_cons_zero, List.setIfInBounds_toArray, Value.cells, List.eraseIdx_cons_succ, List.eraseIdx_cons_zero] at hw)
  refine hK.out _ _ ?_; clear hK K; try simp only [Act.put, List.setIfInBounds_toArray, List.set_cons_succ, List.set_cons_zero]
  refine Go.Proofs.YtbkfhieadnfndaaW.PrintLast.done_ (by kernel_rfl) ?_; clear hS
  have hw := (hw.del 0 rfl).del 0 rfl
  (try simp only [List.set_cons_succ, List.set_cons_zero, List.setIfInBounds_toArray, Value.cells, List.eraseIdx_cons_succ, List.eraseIdx_cons_zero] at hw)
  go_wp2_with (first
    | (refine wl_load1 hw rfl 0 rfl (by kernel_rfl) (by simp only [List.getElem?_toArray, List.getElem?_cons_succ, List.getElem?_cons_zero]; exact rfl) ?_)
    | (refine wl_lit1 (el := 3) (sz := 1) hw (by simp only [Act.eval, Act.put, List.setIfInBounds_toArray, List.set_cons_succ, List.set_cons_zero, gd_s, gd_0, Value.cells]; exact rfl) (by kernel_rfl) (by kernel_rfl) (by kernel_rfl) rfl (by omega) (by omega) ?_; clear hw; intro b3 w hw; (try simp only [List.set_cons_succ, List.set_cons_zero, List.setIfInBounds_toArray, Value.cells, List.eraseIdx_cons_succ, List.eraseIdx_cons_zero] at hw))
    | (refine wl_append hw 3 rfl rfl rfl (Rd_blk hw 0 rfl (n := 1) (Nat.le_refl _) (ints [0]) rfl rfl) u_ints int_info rfl (by omega) ints_mem (by simp only [maxLen]; omega) (by omega) ?_; clear hw; intro v w hw hv; clear hv; (try simp only [List.set_cons_succ, List.set_cons_zero, List.setIfInBounds_toArray, Value.cells, List.eraseIdx_cons_succ, List.eraseIdx_cons_zero] at hw); obtain ⟨A3, c3, rfl, _, _⟩ := Row_val hw 3 rfl)
    | (refine wl_store1 hw rfl 1 rfl (.slice A3 _ c3) rfl (by kernel_rfl) (by simp) rfl ?_; clear hw; intro w hw; (try simp only [List.set_cons_succ, List.set_cons_zero, List.setIfInBounds_toArray, Value.cells, List.eraseIdx_cons_succ, List.eraseIdx_cons_zero] at hw)))
  go_ret
  have hw := hw.tail
  rw [← cells_one, ← cells_app, show ints (turns es.length ended) ++ ints [0] = ints (turns (es.length + 1) ended) from by rw [turns_succ Hnd.out]; simp [ints], show es.length + 1 = (es ++ [Ent.mk c k a n v w' at' 0 false 0]).length from by simp] at hw
  exact ⟨rfl, RLog_shut hw⟩

set_option maxRecDepth 100000 in
set_option maxHeartbeats 800000 in
theorem ref_end_range {c at' res : Int} (hw : Sat E w (RLog r cores es ended :: F)) (hc : c < 0 ∨ (0 ≤ c ∧ cores ≤ c)) :
    Calls Try.prog 27 #[.pointer (some ⟨r, 0, none⟩), .int .i64 c, .int .u64 res, .int .i64 at'] w fun e w' => e = .returned (.int .i64 2) ∧ Sat E w' (RLog r cores es ended :: F) := by
  obtain ⟨v1, v2, hw⟩ := RLog_open hw
  rcases hc with hc | ⟨h0, hc⟩
  · go_enter Try.func27, Try.ntmps27
    go_wp2
    go_ret
    exact ⟨rfl, RLog_shut hw⟩
  · have hn : ¬ c < 0 := by omega
    go_enter Try.func27, Try.ntmps27
    go_wp2_with (refine wl_want (by rfl) (fun K hK => ?_); refine wk_load1 hw rfl 0 rfl (by kernel_rfl) (by simp only [List.getElem?_toArray, List.getElem?_cons_succ, List.getElem?_cons_zero]; exact rfl) ?_; refine hK _ _ ?_; clear hK K)
    go_ret
    exact ⟨rfl, RLog_shut hw⟩
set_option maxRecDepth 100000 in
set_option maxHeartbeats 800000 in
theorem ref_end_none {c at' res : Int} (hw : Sat E w (RLog r cores es ended :: F)) (hc : 0 ≤ c ∧ c < cores) (hi : openOf es c = none) (hl : es.length ≤ 1000000) :
    Calls Try.prog 27 #[.pointer (some ⟨r, 0, none⟩), .int .i64 c, .int .u64 res, .int .i64 at'] w fun e w' => e = .returned (.int .i64 6) ∧ Sat E w' (RLog r cores es ended :: F) := by
  obtain ⟨v1, v2, hw⟩ := RLog_open hw
  have hn : ¬ c < 0 := by omega
  go_enter Try.func27, Try.ntmps27
  go_wp2_with (first
    | (refine wl_want (by rfl) (fun K hK => ?_); refine wk_load1 hw rfl 0 rfl (by kernel_rfl) (by simp only [List.getElem?_toArray, List.getElem?_cons_succ, List.getElem?_cons_zero]; exact rfl) ?_; refine hK _ _ ?_; clear hK K)
    | (go_at_call 31; go_must (refine (ref_open (k1 := 0) (k2 := 1) hw rfl rfl hl).mono ?_); rw [hi]; rintro e w1 ⟨rfl, e1⟩; replace e1 := e1.symm; subst e1; simp only [idxOr]))
  go_ret
  exact ⟨rfl, RLog_shut hw⟩
end
end Go.Proofs.Ytbkfhieadnfndaa
