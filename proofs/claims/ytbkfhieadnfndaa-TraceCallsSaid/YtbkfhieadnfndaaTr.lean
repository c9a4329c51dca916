/- What package trace does, function by function. Conditions: none. -/
import Derived.Test.YtbkfhieadnfndaaTrL
import Derived.Test.YtbkfhieadnfndaaRg
import Derived.Deep.Cut
import Derived.Deep.CutRange
import Derived.Test.YtbkfhieadnfndaaRows
import Derived.Test.YtbkfhieadnfndaaEq
import Derived.Test.YtbkfhieadnfndaaSlc
import Derived.Conc.LoneSelectN
set_option linter.unusedVariables false
set_option linter.unusedSimpArgs false
namespace Go.Proofs.Ytbkfhieadnfndaa
open Go.RowKit Go.Bst Go.MapKept
attribute [local irreducible] wpList Calls Code.wp Code.wpN Oper.wp Go.Proofs.YtbkfhieadnfndaaW.PrintLast.wpAnyLast

theorem KK : KeyKind Try.prog 3 (IsKey (.int .i64)) := KeyKind.plain (by kernel_rfl)
theorem u_mii : Try.prog.underlying 74 = some (.map 3 3) := by kernel_rfl
theorem z_int : zeroOf Try.prog 3 = some (.int .i64 0) := by kernel_rfl
theorem ent_kinds : skinds Try.prog 9 67 = some entK := by kernel_rfl
theorem ent_agg : aggSize Try.prog 67 = some 10 := by kernel_rfl
theorem ent_size : (Try.prog.info? 67).map (·.size) = some 10 := by kernel_rfl
def ent0 : Ent := ⟨0, 0, 0, 0, 0, 0, 0, 0, false, 0⟩
theorem ent_info : (Try.prog.info? 67).map (fun i => (i.zero, i.size, i.bytes)) = some (some (.agg ent0.cs), 10, 80) := by kernel_rfl
theorem ent_zero : zeroOf Try.prog 67 = some (.agg ent0.cs) := by kernel_rfl
theorem u_ents : Try.prog.underlying 53 = some (.slice 67) := by kernel_rfl
theorem u_ints : Try.prog.underlying 54 = some (.slice 3) := by kernel_rfl
theorem int_info : (Try.prog.info? 3).map (fun i => (i.zero, i.size, i.bytes)) = some (some (.int .i64 0), 1, 8) := by kernel_rfl
theorem int_size : (Try.prog.info? 3).map (·.size) = some 1 := by kernel_rfl
theorem op_agg : aggSize Try.prog 59 = some 5 := by kernel_rfl
def opcs (k a n v w : Int) : Array Value := #[.int .i64 k, .int .i64 a, .int .i64 n, .int .u64 v, .int .u64 w]
def ints (l : List Nat) : List Value := l.map (fun i : Nat => Value.int .i64 (i : Int))
theorem ints_mem {l : List Nat} : ∀ u ∈ ints l, u.oneCell' = true := by
  intro u hu; obtain ⟨i, _, rfl⟩ := List.mem_map.1 hu; rfl
def Log (l : Nat) (cores : Int) (es : List Ent) (ended : List Nat) : HP := andH (LogOk cores es ended) <| exH fun v1 => exH fun v2 => exH fun b =>
  star [pt l (.cells #[.int .i64 cores, v1, v2, .map (some b)] 108 (0, 0)), Row 67 10 v1 es.length (cells es), Row 3 1 v2 ended.length (ints ended), Mf b (IsKey (.int .i64)) (fOpen es)]
section
variable {E : Env} {w : World} {l : Nat} {cores : Int} {es : List Ent} {ended : List Nat} {F : List HP}
theorem Log_open (h : Sat E w (Log l cores es ended :: F)) : LogOk cores es ended ∧ ∃ v1 v2 b, Sat E w (pt l (.cells #[.int .i64 cores, v1, v2, .map (some b)] 108 (0, 0)) :: Row 67 10 v1 es.length (cells es) :: Row 3 1 v2 ended.length (ints ended) :: Mf b (IsKey (.int .i64)) (fOpen es) :: F) := by
  obtain ⟨h1, h2⟩ := h.and
  obtain ⟨v1, h2⟩ := h2.ex
  obtain ⟨v2, h2⟩ := h2.ex
  obtain ⟨b, h2⟩ := h2.ex
  exact ⟨h1, v1, v2, b, h2.flat⟩
theorem Log_shut {v1 v2 : Value} {b : Nat} (h1 : LogOk cores es ended) (h : Sat E w (pt l (.cells #[.int .i64 cores, v1, v2, .map (some b)] 108 (0, 0)) :: Row 67 10 v1 es.length (cells es) :: Row 3 1 v2 ended.length (ints ended) :: Mf b (IsKey (.int .i64)) (fOpen es) :: F)) :
    Sat E w (Log l cores es ended :: F) := Sat.and_mk h1 (Sat.ex_mk v1 (Sat.ex_mk v2 (Sat.ex_mk b (Sat.fold (K := [_, _, _, _]) h))))

set_option maxRecDepth 100000 in
set_option maxHeartbeats 400000 in
theorem trace_there {T : TypeId} {fr : Nat × Nat} {c : Int} {x1 x2 x3 : Value} (hw : Sat E w F) (k : Nat) (hk : F[k]? = some (pt l (.cells #[.int .i64 cores, x1, x2, x3] T fr))) (b : Bool) (hb : (c < 0 ∧ b = false) ∨ (0 ≤ c ∧ cores ≤ c ∧ b = false) ∨ (0 ≤ c ∧ c < cores ∧ b = true)) :
    Calls Try.prog 51 #[.pointer (some ⟨l, 0, none⟩), .int .i64 c] w fun e w' => e = .returned (.bool b) ∧ w' = w := by
  rcases hb with ⟨h1, rfl⟩ | ⟨h1, h2, rfl⟩ | ⟨h1, h2, rfl⟩
  all_goals
    go_enter Try.func51, Try.ntmps51
    go_wp2_with (refine wl_want (by rfl) (fun K hK => ?_); refine wk_load1 hw rfl k hk (by kernel_rfl) (by simp only [List.getElem?_toArray, List.getElem?_cons_succ, List.getElem?_cons_zero]; exact rfl) ?_; refine hK _ _ ?_; clear hK K)
    go_ret
    exact ⟨by first | (simp; done) | (simp; omega), rfl⟩

set_option maxRecDepth 100000 in
set_option maxHeartbeats 400000 in
theorem trace_new (hw : Sat E w F) {c : Int} (hc : (c < 0 ∧ cores = 0) ∨ (0 ≤ c ∧ cores = c)) :
    Calls Try.prog 25 #[.int .i64 c] w fun e w' => ∃ l, e = .returned (.pointer (some ⟨l, 0, none⟩)) ∧ Sat E w' (Log l cores [] [] :: F) := by
  rcases hc with ⟨h1, rfl⟩ | ⟨h1, rfl⟩
  all_goals
    go_enter Try.func25, Try.ntmps25
    go_wp2_with (first
      | (refine wl_makeMap hw (IsKey (.int .i64)) ?_; clear hw; intro b w hw)
      | (refine wl_box hw _ (by simp only [Act.eval, Act.put, List.setIfInBounds_toArray, List.set_cons_succ, List.set_cons_zero, gd_s, gd_0, Value.cells]; exact rfl) ?_; clear hw; intro l w hw; (try simp only [List.set_cons_succ, List.set_cons_zero, List.setIfInBounds_toArray, Value.cells, List.eraseIdx_cons_succ, List.eraseIdx_cons_zero] at hw)))
    go_ret
    have hw := Mf_congr (g := fOpen []) (hw.front 1 rfl) (fun k _ => by cases k <;> rfl)
    have hw := (Row_nil (e := 67) (sz := 10) (Row_nil (e := 3) (sz := 1) hw)).front 3 rfl
    exact ⟨l, rfl, Log_shut (LogOk.new (by omega)) hw⟩

theorem key_ok (c : Int) : IsKey (.int .i64) (.int .i64 c) := rfl
set_option maxRecDepth 100000 in
set_option maxHeartbeats 400000 in
theorem trace_begin_range {c at' : Int} {op : Array Value} (hw : Sat E w (Log l cores es ended :: F)) (hc : c < 0 ∨ (0 ≤ c ∧ cores ≤ c)) :
    Calls Try.prog 28 #[.pointer (some ⟨l, 0, none⟩), .int .i64 c, .agg op, .int .i64 at'] w fun e w' => e = .returned (.int .i64 2) ∧ Sat E w' (Log l cores es ended :: F) := by
  obtain ⟨hok, v1, v2, m, hw⟩ := Log_open hw
  go_enter Try.func28, Try.ntmps28
  go_wp2_with (first
    | (refine wl_box hw _ (by simp only [Act.eval, Act.put, List.setIfInBounds_toArray, List.set_cons_succ, List.set_cons_zero, gd_s, gd_0, Value.cells]; exact rfl) ?_; clear hw; intro b w hw; (try simp only [List.set_cons_succ, List.set_cons_zero, List.setIfInBounds_toArray, Value.cells, List.eraseIdx_cons_succ, List.eraseIdx_cons_zero] at hw))
    | (refine wl_load1 hw rfl 1 rfl (by kernel_rfl) (by simp only [List.getElem?_toArray, List.getElem?_cons_succ, List.getElem?_cons_zero]; exact rfl) ?_)
    | (refine wl_lookup2 hw rfl 4 rfl KK u_mii z_int rfl (key_ok _) _ _ rfl rfl ?_)
    | (go_at_call 51; go_must (refine (trace_there hw 1 rfl false (by rcases hc with h | ⟨h, h'⟩; exact .inl ⟨h, rfl⟩; exact .inr (.inl ⟨h, h', rfl⟩))).mono ?_); rintro e w1 ⟨rfl, e1⟩; replace e1 := e1.symm; subst e1))
  go_ret
  exact ⟨rfl, Log_shut hok hw.tail⟩
set_option maxRecDepth 100000 in
set_option maxHeartbeats 400000 in
theorem trace_begin_busy {c at' : Int} {op : Array Value} {i : Nat} (hw : Sat E w (Log l cores es ended :: F)) (hc : 0 ≤ c ∧ c < cores) (hi : openOf es c = some i) :
    Calls Try.prog 28 #[.pointer (some ⟨l, 0, none⟩), .int .i64 c, .agg op, .int .i64 at'] w fun e w' => e = .returned (.int .i64 7) ∧ Sat E w' (Log l cores es ended :: F) := by
  obtain ⟨hok, v1, v2, m, hw⟩ := Log_open hw
  have hf : (fOpen es (.int .i64 c)).isSome = true := by simp [fOpen, hi]
  go_enter Try.func28, Try.ntmps28
  go_wp2_with (first
    | (refine wl_box hw _ (by simp only [Act.eval, Act.put, List.setIfInBounds_toArray, List.set_cons_succ, List.set_cons_zero, gd_s, gd_0, Value.cells]; exact rfl) ?_; clear hw; intro b w hw; (try simp only [List.set_cons_succ, List.set_cons_zero, List.setIfInBounds_toArray, Value.cells, List.eraseIdx_cons_succ, List.eraseIdx_cons_zero] at hw))
    | (refine wl_load1 hw rfl 1 rfl (by kernel_rfl) (by simp only [List.getElem?_toArray, List.getElem?_cons_succ, List.getElem?_cons_zero]; exact rfl) ?_)
    | (refine wl_lookup2 hw rfl 4 rfl KK u_mii z_int rfl (key_ok _) _ _ rfl hf ?_)
    | (go_at_call 51; go_must (refine (trace_there hw 1 rfl true (.inr (.inr ⟨hc.1, hc.2, rfl⟩))).mono ?_); rintro e w1 ⟨rfl, e1⟩; replace e1 := e1.symm; subst e1))
  go_ret
  exact ⟨rfl, Log_shut hok hw.tail⟩
set_option maxRecDepth 100000 in
set_option maxHeartbeats 400000 in
theorem trace_begin {c k a n v w' at' : Int} (hw : Sat E w (Log l cores es ended :: F)) (hc : 0 ≤ c ∧ c < cores) (hi : openOf es c = none) (he : (Ent.mk c k a n v w' at' 0 false 0).Ok) (hl : es.length ≤ 1000000) :
    Calls Try.prog 28 #[.pointer (some ⟨l, 0, none⟩), .int .i64 c, .agg (opcs k a n v w'), .int .i64 at'] w fun e w1 => e = .returned (.int .i64 0) ∧ Sat E w1 (Log l cores (es ++ [Ent.mk c k a n v w' at' 0 false 0]) ended :: F) := by
  obtain ⟨hok, v1, v2, m, hw⟩ := Log_open hw
  have hf : (fOpen es (.int .i64 c)).isSome = false := by simp [fOpen, hi]
  have hok' := Kp.mk (hok.begin he rfl hi)
  obtain ⟨A1, c1, rfl, hc1, hg1⟩ := Row_val hw 1 rfl
  clear hc1 hg1
  go_enter Try.func28, Try.ntmps28
  go_wp2_with (first
    | (refine wl_box hw _ (by simp only [Act.eval, Act.put, List.setIfInBounds_toArray, List.set_cons_succ, List.set_cons_zero, gd_s, gd_0, Value.cells]; exact rfl) ?_; clear hw; intro b w hw; (try simp only [List.set_cons_succ, List.set_cons_zero, List.setIfInBounds_toArray, Value.cells, List.eraseIdx_cons_succ, List.eraseIdx_cons_zero] at hw))
    | (refine wl_load1 hw rfl 1 rfl (by kernel_rfl) (by simp only [List.getElem?_toArray, List.getElem?_cons_succ, List.getElem?_cons_zero]; exact rfl) ?_)
    | (refine wl_lookup2 hw rfl 4 rfl KK u_mii z_int rfl (key_ok _) _ _ rfl hf ?_)
    | (go_at_call 51; go_must (refine (trace_there hw 1 rfl true (.inr (.inr ⟨hc.1, hc.2, rfl⟩))).mono ?_); rintro e w1 ⟨rfl, e1⟩; replace e1 := e1.symm; subst e1))
  refine Go.Proofs.YtbkfhieadnfndaaW.PrintLast.start_ (S := (fun w' => w'.heap[l]? = some (.cells #[.int .i64 cores, .slice A1 es.length c1, v2, .map (some m)] 108 (0, 0)))) (ds := [10]) #[false, false, false, false, false, false, false, false, false, false, false] (by kernel_rfl) rfl (by rfl) ?_ (fun hS => ?_)
  · exact hw.drew.read 1 rfl
  replace hw := hw.drew; generalize w.drew = w at hw hS ⊢
  refine pureE (i := 0) (oi := { dst := some 27, op := Op.move (Operand.tmp 0), type := 50, pos := "trace.go:32", after := #[], guard := none }) (N := some 27) #[true, false, false, false, false, false, false, false, false, false, false] rfl rfl (by kernel_rfl) (fun _ _ _ _ h => h) ?_
  apply Exists.intro
  refine ⟨Or.inl ⟨by rfl, ?_⟩, ?_⟩
  · intro w0; go_simp; try with_reducible rfl
  try simp only [Act.put, List.setIfInBounds_toArray, List.set_cons_succ, List.set_cons_zero]
  refine pureE (i := 1) (oi := { dst := some 28, op := Op.nilCheck (Operand.tmp 27), type := 0, pos := "trace.go:32", after := #[{ on := 0, ground := Ground.data }], guard := none }) (N := some 28) #[true, true, false, false, false, false, false, false, false, false, false] rfl rfl (by kernel_rfl) (fun _ _ _ _ h => h) ?_
  apply Exists.intro
  refine ⟨Or.inl ⟨by rfl, ?_⟩, ?_⟩
  · intro w0; go_simp; try with_reducible rfl
  try simp only [Act.put, List.setIfInBounds_toArray, List.set_cons_succ, List.set_cons_zero]
  refine pureE (i := 2) (oi := { dst := some 29, op := Op.fieldAddr 108 (Operand.tmp 28) 3, type := 0, pos := "trace.go:32", after := #[{ on := 1, ground := Ground.data }], guard := none }) (N := some 29) #[true, true, true, false, false, false, false, false, false, false, false] rfl rfl (by kernel_rfl) (fun _ _ _ _ h => h) ?_
  apply Exists.intro
  refine ⟨Or.inl ⟨by rfl, ?_⟩, ?_⟩
  · intro w0; go_simp; try with_reducible rfl
  try simp only [Act.put, List.setIfInBounds_toArray, List.set_cons_succ, List.set_cons_zero]
  refine pureE (i := 4) (oi := { dst := some 31, op := Op.move (Operand.tmp 1), type := 3, pos := "trace.go:32", after := #[], guard := none }) (N := some 31) #[true, true, true, false, true, false, false, false, false, false, false] rfl rfl (by kernel_rfl) (fun _ _ _ _ h => h) ?_
  apply Exists.intro
  refine ⟨Or.inl ⟨by rfl, ?_⟩, ?_⟩
  · intro w0; go_simp; try with_reducible rfl
  try simp only [Act.put, List.setIfInBounds_toArray, List.set_cons_succ, List.set_cons_zero]
  refine pureE (i := 5) (oi := { dst := some 32, op := Op.move (Operand.tmp 0), type := 50, pos := "trace.go:32", after := #[], guard := none }) (N := some 32) #[true, true, true, false, true, true, false, false, false, false, false] rfl rfl (by kernel_rfl) (fun _ _ _ _ h => h) ?_
  apply Exists.intro
  refine ⟨Or.inl ⟨by rfl, ?_⟩, ?_⟩
  · intro w0; go_simp; try with_reducible rfl
  try simp only [Act.put, List.setIfInBounds_toArray, List.set_cons_succ, List.set_cons_zero]
  refine pureE (i := 6) (oi := { dst := some 33, op := Op.nilCheck (Operand.tmp 32), type := 0, pos := "trace.go:32", after := #[{ on := 5, ground := Ground.data }], guard := none }) (N := some 33) #[true, true, true, false, true, true, true, false, false, false, false] rfl rfl (by kernel_rfl) (fun _ _ _ _ h => h) ?_
  apply Exists.intro
  refine ⟨Or.inl ⟨by rfl, ?_⟩, ?_⟩
  · intro w0; go_simp; try with_reducible rfl
  try simp only [Act.put, List.setIfInBounds_toArray, List.set_cons_succ, List.set_cons_zero]
  refine pureE (i := 7) (oi := { dst := some 34, op := Op.fieldAddr 108 (Operand.tmp 33) 1, type := 0, pos := "trace.go:32", after := #[{ on := 6, ground := Ground.data }], guard := none }) (N := some 34) #[true, true, true, false, true, true, true, true, false, false, false] rfl rfl (by kernel_rfl) (fun _ _ _ _ h => h) ?_
  apply Exists.intro
  refine ⟨Or.inl ⟨by rfl, ?_⟩, ?_⟩
  · intro w0; go_simp; try with_reducible rfl
  try simp only [Act.put, List.setIfInBounds_toArray, List.set_cons_succ, List.set_cons_zero]
  refine takeE (i := 3) (oi := { dst := some 30, op := Op.load 74 (Operand.tmp 29), type := 74, pos := "trace.go:32", after := #[{ on := 2, ground := Ground.data }], guard := none }) (N := some 30) #[true, true, true, true, true, true, true, true, false, false, false] rfl rfl (by kernel_rfl) (fun _ _ _ _ h => h) hS ?_
  apply Exists.intro
  refine ⟨Or.inl ⟨by rfl, fun w0 h => rn_blk1 (v := .map (some m)) rfl rfl (by kernel_rfl) h rfl⟩, ?_⟩
  try simp only [Act.put, List.setIfInBounds_toArray, List.set_cons_succ, List.set_cons_zero]
  refine takeE (i := 8) (oi := { dst := some 35, op := Op.load 53 (Operand.tmp 34), type := 53, pos := "trace.go:32", after := #[{ on := 7, ground := Ground.data }], guard := none }) (N := some 35) #[true, true, true, true, true, true, true, true, true, false, false] rfl rfl (by kernel_rfl) (fun _ _ _ _ h => h) hS ?_
  apply Exists.intro
  refine ⟨Or.inl ⟨by rfl, fun w0 h => rn_blk1 (v := .slice A1 es.length c1) rfl rfl (by kernel_rfl) h rfl⟩, ?_⟩
  try simp only [Act.put, List.setIfInBounds_toArray, List.set_cons_succ, List.set_cons_zero]
  refine pureE (i := 9) (oi := { dst := some 36, op := Op.call { callee := Callee.builtin Builtin.len, args := #[Operand.tmp 35], argTypes := #[53] }, type := 3, pos := "trace.go:32", after := #[{ on := 8, ground := Ground.data }], guard := none }) (N := some 36) #[true, true, true, true, true, true, true, true, true, true, false] rfl rfl (by kernel_rfl) (fun _ _ _ _ h => h) ?_
  apply Exists.intro
  refine ⟨Or.inl ⟨by rfl, ?_⟩, ?_⟩
  · intro w0; go_simp; try with_reducible rfl
  try simp only [Act.put, List.setIfInBounds_toArray, List.set_cons_succ, List.set_cons_zero]
  refine Go.Proofs.YtbkfhieadnfndaaW.PrintLast.last_ (i := 10) (oi := { dst := none, op := Op.mapUpdate 74 (Operand.tmp 30) (Operand.tmp 31) (Operand.tmp 36), type := 0, pos := "trace.go:32", after := #[{ on := 3, ground := Ground.data }, { on := 4, ground := Ground.data }, { on := 9, ground := Ground.data }, { on := 0, ground := Ground.phase }, { on := 1, ground := Ground.phase }, { on := 2, ground := Ground.phase }, { on := 3, ground := Ground.phase }, { on := 4, ground := Ground.phase }, { on := 5, ground := Ground.phase }, { on := 6, ground := Ground.phase }, { on := 7, ground := Ground.phase }, { on := 8, ground := Ground.phase }, { on := 9, ground := Ground.phase }], guard := none }) (N := none) #[true, true, true, true, true, true, true, true, true, true, true] rfl rfl (by kernel_rfl) (by decide) (fun K hK => ?_)
  rw [if_pos (by rfl)]
  refine wk_mapUpdate hw rfl 4 rfl KK u_mii rfl (key_ok _) _ rfl ?_
  clear hw; intro w hw; (try simp only [List.set_cons_succ, List.set_cons_zero, List.setIfInBounds_toArray, Value.cells, List.eraseIdx_cons_succ, List.eraseIdx_cons_zero] at hw)
  refine hK.out _ _ ?_; clear hK K; try simp only [Act.put, List.setIfInBounds_toArray, List.set_cons_succ, List.set_cons_zero]
  refine Go.Proofs.YtbkfhieadnfndaaW.PrintLast.done_ (by kernel_rfl) ?_; clear hS
  go_wp2
  refine Go.Proofs.YtbkfhieadnfndaaW.PrintLast.start_ (S := (fun w1 => w1.heap[b]? = some (.cells #[.int .i64 k, .int .i64 a, .int .i64 n, .int .u64 v, .int .u64 w'] 59 (0, 0)) ∧ w1.heap[l]? = some (.cells #[.int .i64 cores, .slice A1 es.length c1, v2, .map (some m)] 108 (0, 0)))) (ds := [13]) #[false, false, false, false, false, false, false, false, false, false, false, false, false, false] (by kernel_rfl) rfl (by rfl) ?_ (fun hS => ?_)
  · exact ⟨hw.drew.read 0 rfl, hw.drew.read 1 rfl⟩
  replace hw := hw.drew; generalize w.drew = w at hw hS ⊢
  refine pureE (i := 0) (oi := { dst := some 37, op := Op.move (Operand.tmp 0), type := 50, pos := "trace.go:33", after := #[], guard := none }) (N := some 37) #[true, false, false, false, false, false, false, false, false, false, false, false, false, false] rfl rfl (by kernel_rfl) (fun _ _ _ _ h => h) ?_
  apply Exists.intro
  refine ⟨Or.inl ⟨by rfl, ?_⟩, ?_⟩
  · intro w0; go_simp; try with_reducible rfl
  try simp only [Act.put, List.setIfInBounds_toArray, List.set_cons_succ, List.set_cons_zero]
  refine pureE (i := 1) (oi := { dst := some 38, op := Op.move (Operand.tmp 0), type := 50, pos := "trace.go:33", after := #[], guard := none }) (N := some 38) #[true, true, false, false, false, false, false, false, false, false, false, false, false, false] rfl rfl (by kernel_rfl) (fun _ _ _ _ h => h) ?_
  apply Exists.intro
  refine ⟨Or.inl ⟨by rfl, ?_⟩, ?_⟩
  · intro w0; go_simp; try with_reducible rfl
  try simp only [Act.put, List.setIfInBounds_toArray, List.set_cons_succ, List.set_cons_zero]
  refine pureE (i := 2) (oi := { dst := some 39, op := Op.nilCheck (Operand.tmp 38), type := 0, pos := "trace.go:33", after := #[{ on := 1, ground := Ground.data }], guard := none }) (N := some 39) #[true, true, true, false, false, false, false, false, false, false, false, false, false, false] rfl rfl (by kernel_rfl) (fun _ _ _ _ h => h) ?_
  apply Exists.intro
  refine ⟨Or.inl ⟨by rfl, ?_⟩, ?_⟩
  · intro w0; go_simp; try with_reducible rfl
  try simp only [Act.put, List.setIfInBounds_toArray, List.set_cons_succ, List.set_cons_zero]
  refine pureE (i := 3) (oi := { dst := some 40, op := Op.fieldAddr 108 (Operand.tmp 39) 1, type := 0, pos := "trace.go:33", after := #[{ on := 2, ground := Ground.data }], guard := none }) (N := some 40) #[true, true, true, true, false, false, false, false, false, false, false, false, false, false] rfl rfl (by kernel_rfl) (fun _ _ _ _ h => h) ?_
  apply Exists.intro
  refine ⟨Or.inl ⟨by rfl, ?_⟩, ?_⟩
  · intro w0; go_simp; try with_reducible rfl
  try simp only [Act.put, List.setIfInBounds_toArray, List.set_cons_succ, List.set_cons_zero]
  refine pureE (i := 5) (oi := { dst := some 42, op := Op.move (Operand.tmp 1), type := 3, pos := "trace.go:33", after := #[], guard := none }) (N := some 42) #[true, true, true, true, false, true, false, false, false, false, false, false, false, false] rfl rfl (by kernel_rfl) (fun _ _ _ _ h => h) ?_
  apply Exists.intro
  refine ⟨Or.inl ⟨by rfl, ?_⟩, ?_⟩
  · intro w0; go_simp; try with_reducible rfl
  try simp only [Act.put, List.setIfInBounds_toArray, List.set_cons_succ, List.set_cons_zero]
  refine pureE (i := 7) (oi := { dst := some 44, op := Op.move (Operand.tmp 3), type := 3, pos := "trace.go:33", after := #[], guard := none }) (N := some 44) #[true, true, true, true, false, true, false, true, false, false, false, false, false, false] rfl rfl (by kernel_rfl) (fun _ _ _ _ h => h) ?_
  apply Exists.intro
  refine ⟨Or.inl ⟨by rfl, ?_⟩, ?_⟩
  · intro w0; go_simp; try with_reducible rfl
  try simp only [Act.put, List.setIfInBounds_toArray, List.set_cons_succ, List.set_cons_zero]
  refine takeE (i := 4) (oi := { dst := some 41, op := Op.load 53 (Operand.tmp 40), type := 53, pos := "trace.go:33", after := #[{ on := 3, ground := Ground.data }], guard := none }) (N := some 41) #[true, true, true, true, true, true, false, true, false, false, false, false, false, false] rfl rfl (by kernel_rfl) (fun _ _ _ _ h => h) hS ?_
  apply Exists.intro
  refine ⟨Or.inl ⟨by rfl, fun w0 h => rn_blk1 (v := .slice A1 es.length c1) rfl rfl (by kernel_rfl) h.2 rfl⟩, ?_⟩
  try simp only [Act.put, List.setIfInBounds_toArray, List.set_cons_succ, List.set_cons_zero]
  refine takeE (i := 6) (oi := { dst := some 43, op := Op.load 59 (Operand.tmp 6), type := 59, pos := "trace.go:33", after := #[], guard := none }) (N := some 43) #[true, true, true, true, true, true, true, true, false, false, false, false, false, false] rfl rfl (by kernel_rfl) (fun _ _ _ _ h => h) hS ?_
  apply Exists.intro
  refine ⟨Or.inl ⟨by rfl, fun w0 h => rn_blkA (cs := #[.int .i64 k, .int .i64 a, .int .i64 n, .int .u64 v, .int .u64 w']) rfl rfl op_agg h.1⟩, ?_⟩
  try simp only [Act.put, List.setIfInBounds_toArray, List.set_cons_succ, List.set_cons_zero]
  refine pureE (i := 8) (oi := { dst := some 45, op := Op.build 67 #[(0, Operand.tmp 42), (1, Operand.tmp 43), (2, Operand.tmp 44)], type := 67, pos := "trace.go:33", after := #[{ on := 5, ground := Ground.data }, { on := 6, ground := Ground.data }, { on := 7, ground := Ground.data }], guard := none }) (N := some 45) #[true, true, true, true, true, true, true, true, true, false, false, false, false, false] rfl rfl (by kernel_rfl) (fun _ _ _ _ h => h) ?_
  apply Exists.intro
  refine ⟨Or.inl ⟨by rfl, ?_⟩, ?_⟩
  · intro w0; go_simp; try with_reducible rfl
  try simp only [Act.put, List.setIfInBounds_toArray, List.set_cons_succ, List.set_cons_zero]
  refine Go.Proofs.YtbkfhieadnfndaaW.PrintLast.one_ (i := 9) (oi := { dst := some 46, op := Op.buildSlice 53 1 #[(0, Operand.tmp 45)], type := 53, pos := "trace.go:33", after := #[{ on := 8, ground := Ground.data }], guard := none }) (N := some 46) #[true, true, true, true, true, true, true, true, true, true, false, false, false, false] rfl rfl (by kernel_rfl) (by decide) (fun K hK => ?_)
  rw [if_pos (by rfl)]
  refine wk_lit1 (el := 67) (sz := 10) (v := .agg (Ent.mk c k a n v w' at' 0 false 0).cs) hw (by simp only [Act.eval, Act.put, List.setIfInBounds_toArray, List.set_cons_succ, List.set_cons_zero, gd_s, gd_0, Value.cells]; exact rfl) (by kernel_rfl) (by kernel_rfl) (by kernel_rfl) rfl (by omega) (by omega) ?_
  clear hw; intro b2 w hw; (try simp only [List.set_cons_succ, List.set_cons_zero, List.setIfInBounds_toArray, Value.cells, List.eraseIdx_cons_succ, List.eraseIdx_cons_zero] at hw)
  refine hK.out _ _ ⟨hw.read 1 rfl, hw.read 2 rfl⟩ (fun hS => ?_); clear hK K; try simp only [Act.put, List.setIfInBounds_toArray, List.set_cons_succ, List.set_cons_zero]
  refine Go.Proofs.YtbkfhieadnfndaaW.PrintLast.one_ (i := 10) (oi := { dst := some 47, op := Op.call { callee := Callee.builtin Builtin.append, args := #[Operand.tmp 41, Operand.tmp 46], argTypes := #[53, 53] }, type := 53, pos := "trace.go:33", after := #[{ on := 4, ground := Ground.data }, { on := 9, ground := Ground.data }], guard := none }) (N := some 47) #[true, true, true, true, true, true, true, true, true, true, true, false, false, false] rfl rfl (by kernel_rfl) (by decide) (fun K hK => ?_)
  rw [if_pos (by rfl)]
  refine wk_append hw 3 rfl rfl rfl (Rd_blk hw 0 rfl (n := 1) (Nat.le_refl _) (Ent.mk c k a n v w' at' 0 false 0).cs.toList rfl rfl) u_ents ent_info rfl (by omega) (Ent.mem _) (by simp only [maxLen]; omega) (by omega) ?_
  clear hw; intro vv w hw hv; clear hv; (try simp only [List.set_cons_succ, List.set_cons_zero, List.setIfInBounds_toArray, Value.cells, List.eraseIdx_cons_succ, List.eraseIdx_cons_zero] at hw); obtain ⟨A', c', rfl, hc', _⟩ := Row_val hw 3 rfl
  refine hK.out _ _ ⟨hw.read 1 rfl, hw.read 2 rfl⟩ (fun hS => ?_); clear hK K; try simp only [Act.put, List.setIfInBounds_toArray, List.set_cons_succ, List.set_cons_zero]
  refine pureE (i := 11) (oi := { dst := some 48, op := Op.nilCheck (Operand.tmp 37), type := 0, pos := "trace.go:33", after := #[{ on := 0, ground := Ground.data }, { on := 0, ground := Ground.phase }, { on := 1, ground := Ground.phase }, { on := 2, ground := Ground.phase }, { on := 3, ground := Ground.phase }, { on := 4, ground := Ground.phase }, { on := 5, ground := Ground.phase }, { on := 6, ground := Ground.phase }, { on := 7, ground := Ground.phase }, { on := 8, ground := Ground.phase }, { on := 9, ground := Ground.phase }, { on := 10, ground := Ground.phase }], guard := none }) (N := some 48) #[true, true, true, true, true, true, true, true, true, true, true, true, false, false] rfl rfl (by kernel_rfl) (fun _ _ _ _ h => h) ?_
  apply Exists.intro
  refine ⟨Or.inl ⟨by rfl, ?_⟩, ?_⟩
  · intro w0; go_simp; try with_reducible rfl
  try simp only [Act.put, List.setIfInBounds_toArray, List.set_cons_succ, List.set_cons_zero]
  refine pureE (i := 12) (oi := { dst := some 49, op := Op.fieldAddr 108 (Operand.tmp 48) 1, type := 0, pos := "trace.go:33", after := #[{ on := 11, ground := Ground.data }, { on := 0, ground := Ground.phase }, { on := 1, ground := Ground.phase }, { on := 2, ground := Ground.phase }, { on := 3, ground := Ground.phase }, { on := 4, ground := Ground.phase }, { on := 5, ground := Ground.phase }, { on := 6, ground := Ground.phase }, { on := 7, ground := Ground.phase }, { on := 8, ground := Ground.phase }, { on := 9, ground := Ground.phase }, { on := 10, ground := Ground.phase }], guard := none }) (N := some 49) #[true, true, true, true, true, true, true, true, true, true, true, true, true, false] rfl rfl (by kernel_rfl) (fun _ _ _ _ h => h) ?_
  apply Exists.intro
  refine ⟨Or.inl ⟨by rfl, ?_⟩, ?_⟩
  · intro w0; go_simp; try with_reducible rfl
  try simp only [Act.put, List.setIfInBounds_toArray, List.set_cons_succ, List.set_cons_zero]
  refine Go.Proofs.YtbkfhieadnfndaaW.PrintLast.last_ (i := 13) (oi := { dst := none, op := Op.store 53 (Operand.tmp 49) (Operand.tmp 47), type := 0, pos := "trace.go:33", after := #[{ on := 12, ground := Ground.data }, { on := 10, ground := Ground.data }, { on := 10, ground := Ground.chain }, { on := 0, ground := Ground.phase }, { on := 1, ground := Ground.phase }, { on := 2, ground := Ground.phase }, { on := 3, ground := Ground.phase }, { on := 4, ground := Ground.phase }, { on := 5, ground := Ground.phase }, { on := 6, ground := Ground.phase }, { on := 7, ground := Ground.phase }, { on := 8, ground := Ground.phase }, { on := 9, ground := Ground.phase }, { on := 10, ground := Ground.phase }], guard := none }) (N := none) #[true, true, true, true, true, true, true, true, true, true, true, true, true, true] rfl rfl (by kernel_rfl) (by decide) (fun K hK => ?_)
  rw [if_pos (by rfl)]
  refine wk_store1 hw rfl 2 rfl (.slice A' _ c') rfl (by kernel_rfl) (by simp) rfl ?_
  clear hw; intro w hw; (try simp only [List.set_cons_succ, List.set_cons_zero, List.setIfInBounds_toArray, Value.cells, List.eraseIdx_cons_succ, List.eraseIdx_cons_zero] at hw)
  refine hK.out _ _ ?_; clear hK K; try simp only [Act.put, List.setIfInBounds_toArray, List.set_cons_succ, List.set_cons_zero]
  refine Go.Proofs.YtbkfhieadnfndaaW.PrintLast.done_ (by kernel_rfl) ?_; clear hS
  go_wp2
  go_ret
  have hw := (hw.del 0 rfl).del 0 rfl
  (try simp only [List.set_cons_succ, List.set_cons_zero, List.setIfInBounds_toArray, Value.cells, List.eraseIdx_cons_succ, List.eraseIdx_cons_zero] at hw)
  rw [← cells_one, ← cells_app, show es.length + 1 = (es ++ [Ent.mk c k a n v w' at' 0 false 0]).length from by simp] at hw
  have hfe : ∀ x, IsKey (.int .i64) x → upd (fOpen es) (.int .i64 c) (some (.int .i64 es.length)) x = fOpen (es ++ [Ent.mk c k a n v w' at' 0 false 0]) x := by
    intro x hx
    obtain ⟨c2, rfl⟩ : ∃ c2, x = .int .i64 c2 := by cases x <;> first | exact hx.elim | exact ⟨_, by rw [show _ = IntKind.i64 from hx]⟩
    by_cases q : c2 = c
    · subst q
      rw [upd_same]
      simp [fOpen, openOf_app, hi, openAt]
    · rw [upd_ne _ _ _ (by intro e; injection e with _ e; exact q e)]
      simp [fOpen, openOf_app, openAt, Ne.symm q]
  have hw := (Mf_congr (hw.front 3 rfl) hfe)
  have hw := ((hw.front 3 rfl).front 3 rfl).front 3 rfl
  exact ⟨rfl, Log_shut hok'.out hw⟩

theorem Ent.Ok_fin {e : Ent} (h : e.Ok) {res at' : Int} (hr : SK.fits (.int .u64) (.int .u64 res)) (ha : SK.fits (.int .i64) (.int .i64 at')) : (e.fin res at').Ok := by
  obtain ⟨h1, h2, h3, h4, h5, h6, h7, h8, h9, h10, _⟩ := h
  exact ⟨h1, h2, h3, h4, h5, h6, h7, ha, ⟨true, rfl⟩, hr, trivial⟩
set_option maxRecDepth 100000 in
set_option maxHeartbeats 400000 in
theorem trace_end_range {c at' res : Int} (hw : Sat E w (Log l cores es ended :: F)) (hc : c < 0 ∨ (0 ≤ c ∧ cores ≤ c)) :
    Calls Try.prog 26 #[.pointer (some ⟨l, 0, none⟩), .int .i64 c, .int .u64 res, .int .i64 at'] w fun e w' => e = .returned (.int .i64 2) ∧ Sat E w' (Log l cores es ended :: F) := by
  obtain ⟨hok, v1, v2, m, hw⟩ := Log_open hw
  go_enter Try.func26, Try.ntmps26
  go_wp2_with (first
    | (refine wl_load1 hw rfl 0 rfl (by kernel_rfl) (by simp only [List.getElem?_toArray, List.getElem?_cons_succ, List.getElem?_cons_zero]; exact rfl) ?_)
    | (refine wl_lookup2 hw rfl 3 rfl KK u_mii z_int rfl (key_ok _) _ _ rfl rfl ?_)
    | (go_at_call 51; go_must (refine (trace_there hw 0 rfl false (by rcases hc with h | ⟨h, h'⟩; exact .inl ⟨h, rfl⟩; exact .inr (.inl ⟨h, h', rfl⟩))).mono ?_); rintro e w1 ⟨rfl, e1⟩; replace e1 := e1.symm; subst e1))
  go_ret
  exact ⟨rfl, Log_shut hok hw⟩
set_option maxRecDepth 100000 in
set_option maxHeartbeats 400000 in
theorem trace_end_none {c at' res : Int} (hw : Sat E w (Log l cores es ended :: F)) (hc : 0 ≤ c ∧ c < cores) (hi : openOf es c = none) :
    Calls Try.prog 26 #[.pointer (some ⟨l, 0, none⟩), .int .i64 c, .int .u64 res, .int .i64 at'] w fun e w' => e = .returned (.int .i64 6) ∧ Sat E w' (Log l cores es ended :: F) := by
  obtain ⟨hok, v1, v2, m, hw⟩ := Log_open hw
  have hf : (fOpen es (.int .i64 c)).isSome = false := by simp [fOpen, hi]
  go_enter Try.func26, Try.ntmps26
  go_wp2_with (first
    | (refine wl_load1 hw rfl 0 rfl (by kernel_rfl) (by simp only [List.getElem?_toArray, List.getElem?_cons_succ, List.getElem?_cons_zero]; exact rfl) ?_)
    | (refine wl_lookup2 hw rfl 3 rfl KK u_mii z_int rfl (key_ok _) _ _ rfl hf ?_)
    | (go_at_call 51; go_must (refine (trace_there hw 0 rfl true (.inr (.inr ⟨hc.1, hc.2, rfl⟩))).mono ?_); rintro e w1 ⟨rfl, e1⟩; replace e1 := e1.symm; subst e1))
  go_ret
  exact ⟨rfl, Log_shut hok hw⟩
set_option maxRecDepth 100000 in
set_option maxHeartbeats 800000 in
theorem trace_end {c at' res : Int} {i : Nat} {en : Ent} (hw : Sat E w (Log l cores es ended :: F)) (hc : 0 ≤ c ∧ c < cores) (hi : openOf es c = some i) (hen : es[i]? = some en) (hr : SK.fits (.int .u64) (.int .u64 res)) (ha : SK.fits (.int .i64) (.int .i64 at')) (hl : es.length ≤ 1000000) :
    Calls Try.prog 26 #[.pointer (some ⟨l, 0, none⟩), .int .i64 c, .int .u64 res, .int .i64 at'] w fun e w' => e = .returned (.int .i64 0) ∧ Sat E w' (Log l cores (es.set i (en.fin res at')) (ended ++ [i]) :: F) := by
  obtain ⟨hok, v1, v2, m, hw⟩ := Log_open hw
  have hf : (fOpen es (.int .i64 c)).isSome = true := by simp [fOpen, hi]
  have hf2 : (fOpen es (.int .i64 c)).getD (.int .i64 0) = .int .i64 i := by simp [fOpen, hi]
  have hilt : i < es.length := (List.getElem?_eq_some_iff.1 hen).1
  obtain ⟨hcore, hdone⟩ : en.core = c ∧ en.done = false := by
    obtain ⟨e', h1, h2, h3⟩ := openOf_some hi
    rw [hen] at h1; injection h1 with h1; subst h1; exact ⟨h2, h3⟩
  have hok' := Kp.mk (hok.endd hen hdone (Ent.Ok_fin (hok.ok en (List.mem_of_getElem? hen)) hr ha))
  have hle := hok.le
  have hfe : ∀ x, IsKey (.int .i64) x → upd (fOpen es) (.int .i64 c) none x = fOpen (es.set i (en.fin res at')) x := by
    intro x hx
    obtain ⟨c2, rfl⟩ : ∃ c2, x = .int .i64 c2 := by cases x <;> first | exact hx.elim | exact ⟨_, by rw [show _ = IntKind.i64 from hx]⟩
    by_cases q : c2 = c
    · subst q
      subst hcore
      rw [upd_same]
      simp only [fOpen]
      rw [openOf_set_same hok hen hdone]; rfl
    · rw [upd_ne _ _ _ (by intro e; injection e with _ e; exact q e)]
      simp only [fOpen]
      rw [openOf_set_ne hen _ _ (by rw [hcore]; exact Ne.symm q)]
  have hcells : (((cells es).set (i * 10 + 8) (.bool true)).set (i * 10 + 9) (.int .u64 res)).set (i * 10 + 7) (.int .i64 at') = cells (es.set i (en.fin res at')) := by
    have g1 : (es.set i { en with done := true })[i]? = some { en with done := true } := by rw [List.getElem?_set_self hilt]
    have g2 : (es.set i { en with done := true, res := res })[i]? = some { en with done := true, res := res } := by rw [List.getElem?_set_self hilt]
    rw [cells_set es i 8 en _ hen { en with done := true } (by omega) rfl, cells_set _ i 9 _ _ g1 { en with done := true, res := res } (by omega) rfl, List.set_set,
      cells_set _ i 7 _ (.int .i64 at') g2 (en.fin res at') (by omega) rfl, List.set_set]
  have Hfe := Kp.mk hfe
  have Hcells := Kp.mk hcells
  obtain ⟨A1, c1, rfl, hc1, hg1⟩ := Row_val hw 1 rfl
  obtain ⟨g, rfl⟩ := hg1 (by omega)
  obtain ⟨A2, c2, rfl, hc2, hg2⟩ := Row_val hw 2 rfl
  clear hc1 hg1 hc2 hg2 hfe hcells hok hdone
  have hil : (i : Int) < (es.length : Int) := by omega
  go_enter Try.func26, Try.ntmps26
  go_wp2_with (first
    | (refine wl_load1 hw rfl 0 rfl (by kernel_rfl) (by simp only [List.getElem?_toArray, List.getElem?_cons_succ, List.getElem?_cons_zero]; exact rfl) ?_)
    | (refine wl_lookup2 hw rfl 3 rfl KK u_mii z_int rfl (key_ok _) _ _ hf2 hf ?_)
    | (go_at_call 51; go_must (refine (trace_there hw 0 rfl true (.inr (.inr ⟨hc.1, hc.2, rfl⟩))).mono ?_); rintro e w1 ⟨rfl, e1⟩; replace e1 := e1.symm; subst e1)
    | (refine wl_rowIdx i (i * 10) rfl hw rfl rfl 1 rfl u_ents ent_size hilt ?_)
    | (refine wl_rowStore1 (j := i * 10 + 8) hw rfl rfl 1 rfl (by omega) (.bool true) rfl (by kernel_rfl) rfl ?_; clear hw; intro w hw; (try simp only [List.set_cons_succ, List.set_cons_zero, List.setIfInBounds_toArray, Value.cells, List.eraseIdx_cons_succ, List.eraseIdx_cons_zero] at hw))
    | (refine wl_rowStore1 (j := i * 10 + 9) hw rfl rfl 1 rfl (by omega) (.int .u64 res) rfl (by kernel_rfl) rfl ?_; clear hw; intro w hw; (try simp only [List.set_cons_succ, List.set_cons_zero, List.setIfInBounds_toArray, Value.cells, List.eraseIdx_cons_succ, List.eraseIdx_cons_zero] at hw))
    | (refine wl_rowStore1 (j := i * 10 + 7) hw rfl rfl 1 rfl (by omega) (.int .i64 at') rfl (by kernel_rfl) rfl ?_; clear hw; intro w hw; (try simp only [List.set_cons_succ, List.set_cons_zero, List.setIfInBounds_toArray, Value.cells, List.eraseIdx_cons_succ, List.eraseIdx_cons_zero] at hw))
    | (refine wl_delete hw rfl 3 rfl KK u_mii rfl (key_ok _) ?_; clear hw; intro w hw; (try simp only [List.set_cons_succ, List.set_cons_zero, List.setIfInBounds_toArray, Value.cells, List.eraseIdx_cons_succ, List.eraseIdx_cons_zero] at hw))
    | (refine wl_lit1 (el := 3) (sz := 1) hw (by simp only [Act.eval, Act.put, List.setIfInBounds_toArray, List.set_cons_succ, List.set_cons_zero, gd_s, gd_0, Value.cells]; exact rfl) (by kernel_rfl) (by kernel_rfl) (by kernel_rfl) rfl (by omega) (by omega) ?_; clear hw; intro b w hw; (try simp only [List.set_cons_succ, List.set_cons_zero, List.setIfInBounds_toArray, Value.cells, List.eraseIdx_cons_succ, List.eraseIdx_cons_zero] at hw))
    | (refine wl_load1 hw rfl 1 rfl (by kernel_rfl) (by simp only [List.getElem?_toArray, List.getElem?_cons_succ, List.getElem?_cons_zero]; exact rfl) ?_)
    | (refine wl_append hw 3 rfl rfl rfl (Rd_blk hw 0 rfl (n := 1) (Nat.le_refl _) (ints [i]) rfl rfl) u_ints int_info rfl (by omega) ints_mem (by simp only [maxLen]; omega) (by omega) ?_; clear hw; intro v w hw hv; clear hv; (try simp only [List.set_cons_succ, List.set_cons_zero, List.setIfInBounds_toArray, Value.cells, List.eraseIdx_cons_succ, List.eraseIdx_cons_zero] at hw); obtain ⟨A', c', rfl, hc', _⟩ := Row_val hw 3 rfl)
    | (refine wl_store1 hw rfl 1 rfl (.slice A' _ c') rfl (by kernel_rfl) (by simp) rfl ?_; clear hw; intro w hw; (try simp only [List.set_cons_succ, List.set_cons_zero, List.setIfInBounds_toArray, Value.cells, List.eraseIdx_cons_succ, List.eraseIdx_cons_zero] at hw)))
  go_ret
  have hw := hw.tail
  rw [Hcells.out] at hw
  have hw := Mf_congr (hw.front 3 rfl) Hfe.out
  have hw := ((hw.front 3 rfl).front 3 rfl).front 3 rfl
  rw [show es.length = (es.set i (en.fin res at')).length from by simp, show ended.length + 1 = (ended ++ [i]).length from by simp, show ints ended ++ ints [i] = ints (ended ++ [i]) from by simp [ints]] at hw
  exact ⟨rfl, Log_shut hok'.out hw⟩

set_option maxRecDepth 100000 in
set_option maxHeartbeats 400000 in
theorem trace_open_none {c : Int} (hw : Sat E w (Log l cores es ended :: F)) (hi : openOf es c = none) :
    Calls Try.prog 30 #[.pointer (some ⟨l, 0, none⟩), .int .i64 c] w fun e w' => e = .returned (.tuple #[.agg ent0.cs, .bool false]) ∧ Sat E w' (Log l cores es ended :: F) := by
  obtain ⟨hok, v1, v2, m, hw⟩ := Log_open hw
  have hf : (fOpen es (.int .i64 c)).isSome = false := by simp [fOpen, hi]
  go_enter Try.func30, Try.ntmps30
  go_wp2_with (first
    | (refine wl_alloc hw ent_zero ?_; clear hw; intro b w hw; (try simp only [List.set_cons_succ, List.set_cons_zero, List.setIfInBounds_toArray, Value.cells, List.eraseIdx_cons_succ, List.eraseIdx_cons_zero] at hw))
    | (refine wl_load1 hw rfl 1 rfl (by kernel_rfl) (by simp only [List.getElem?_toArray, List.getElem?_cons_succ, List.getElem?_cons_zero]; exact rfl) ?_)
    | (refine wl_lookup2 hw rfl 4 rfl KK u_mii z_int rfl (key_ok _) _ _ rfl hf ?_)
    | (refine wl_store_all (vs := ent0.cs) hw rfl 0 rfl rfl ent_size rfl (Ent.one _) ?_; clear hw; intro w hw; (try simp only [List.set_cons_succ, List.set_cons_zero, List.setIfInBounds_toArray, Value.cells, List.eraseIdx_cons_succ, List.eraseIdx_cons_zero] at hw)))
  refine ret_cell_tmp rfl hw rfl 0 rfl ent_agg _ rfl rfl ?_
  exact ⟨rfl, Log_shut hok hw.tail⟩
set_option maxRecDepth 100000 in
set_option maxHeartbeats 400000 in
theorem trace_open {c : Int} {i : Nat} {en : Ent} (hw : Sat E w (Log l cores es ended :: F)) (hi : openOf es c = some i) (hen : es[i]? = some en) :
    Calls Try.prog 30 #[.pointer (some ⟨l, 0, none⟩), .int .i64 c] w fun e w' => e = .returned (.tuple #[.agg en.cs, .bool true]) ∧ Sat E w' (Log l cores es ended :: F) := by
  obtain ⟨hok, v1, v2, m, hw⟩ := Log_open hw
  have hf : (fOpen es (.int .i64 c)).isSome = true := by simp [fOpen, hi]
  have hf2 : (fOpen es (.int .i64 c)).getD (.int .i64 0) = .int .i64 i := by simp [fOpen, hi]
  have hilt : i < es.length := (List.getElem?_eq_some_iff.1 hen).1
  obtain ⟨A1, c1, rfl, hc1, hg1⟩ := Row_val hw 1 rfl
  obtain ⟨g, rfl⟩ := hg1 (by omega)
  clear hg1
  have hil : (i : Int) < (es.length : Int) := by omega
  go_enter Try.func30, Try.ntmps30
  go_wp2_with (first
    | (refine wl_alloc hw ent_zero ?_; clear hw; intro b w hw; (try simp only [List.set_cons_succ, List.set_cons_zero, List.setIfInBounds_toArray, Value.cells, List.eraseIdx_cons_succ, List.eraseIdx_cons_zero] at hw))
    | (refine wl_load1 hw rfl 1 rfl (by kernel_rfl) (by simp only [List.getElem?_toArray, List.getElem?_cons_succ, List.getElem?_cons_zero]; exact rfl) ?_)
    | (refine wl_lookup2 hw rfl 4 rfl KK u_mii z_int rfl (key_ok _) _ _ hf2 hf ?_)
    | (refine wl_rowIdx i (i * 10) rfl hw rfl rfl 2 rfl u_ents ent_size hilt ?_)
    | (refine wl_rowLdA (j := i * 10) hw rfl rfl 2 rfl en.cs ent_agg (cells_get hen) ?_)
    | (refine wl_store_all (vs := en.cs) hw rfl 0 rfl rfl ent_size rfl (Ent.one _) ?_; clear hw; intro w hw; (try simp only [List.set_cons_succ, List.set_cons_zero, List.setIfInBounds_toArray, Value.cells, List.eraseIdx_cons_succ, List.eraseIdx_cons_zero] at hw)))
  refine ret_cell_tmp rfl hw rfl 0 rfl ent_agg _ rfl rfl ?_
  exact ⟨rfl, Log_shut hok hw.tail⟩
set_option maxRecDepth 100000 in
set_option maxHeartbeats 400000 in
theorem clone_ents {v : Value} {n : Nat} {xs : List Value} {k : Nat} (hw : Sat E w F) (hk : F[k]? = some (Row 67 10 v n xs)) (hx : ∀ u ∈ xs, u.oneCell' = true) (hn : n ≤ 1000000) :
    Calls Try.prog 52 #[v] w fun e w' => ∃ v', e = .returned v' ∧ Sat E w' (Row 67 10 v' n xs :: F) := by
  have hrd := Rd_row hw k hk
  rcases Row_open (hw.front k hk) with ⟨rfl, rfl, rfl, _⟩ | ⟨g, cap, cur, rfl, h2, h3, h4, h5, h6, s⟩
  · clear hrd
    go_enter Try.func52, Try.ntmps52
    go_wp2_with (refine wl_eqNil rfl rfl u_ents _ rfl ?_)
    go_ret
    exact ⟨_, rfl, Row_nil hw⟩
  · clear s h3 h4 h5
    go_enter Try.func52, Try.ntmps52
    go_wp2_with (first
      | (refine wl_eqNil rfl rfl u_ents _ rfl ?_)
      | (refine wl_lit0 (el := 67) (sz := 10) hw (by kernel_rfl) (by kernel_rfl) ?_; clear hw; intro b w hw; (try simp only [List.set_cons_succ, List.set_cons_zero, List.setIfInBounds_toArray, Value.cells, List.eraseIdx_cons_succ, List.eraseIdx_cons_zero] at hw))
      | (at_builtin; go_must (refine wl_append hw 0 rfl rfl rfl (Rd_row hw (k + 1) hk) u_ents ent_info rfl (by omega) hx (by simp only [maxLen]; omega) (by omega) ?_); clear hw; intro v w hw hv; clear hv; (try simp only [List.set_cons_succ, List.set_cons_zero, List.setIfInBounds_toArray, Value.cells, List.eraseIdx_cons_succ, List.eraseIdx_cons_zero] at hw)))
    go_ret
    rw [Nat.zero_add, List.nil_append] at hw
    exact ⟨_, rfl, hw⟩
set_option maxRecDepth 100000 in
set_option maxHeartbeats 400000 in
theorem trace_list (hw : Sat E w (Log l cores es ended :: F)) (hl : es.length ≤ 1000000) :
    Calls Try.prog 33 #[.pointer (some ⟨l, 0, none⟩)] w fun e w' => ∃ v, e = .returned v ∧ Sat E w' (Row 67 10 v es.length (cells es) :: Log l cores es ended :: F) := by
  obtain ⟨hok, v1, v2, m, hw⟩ := Log_open hw
  go_enter Try.func33, Try.ntmps33
  go_wp2_with (first
    | (refine wl_load1 hw rfl 0 rfl (by kernel_rfl) (by simp only [List.getElem?_toArray, List.getElem?_cons_succ, List.getElem?_cons_zero]; exact rfl) ?_)
    | (go_at_call 52; go_must (refine (clone_ents (k := 1) hw rfl cells_mem hl).mono ?_); clear hw; rintro e w ⟨v, rfl, hw⟩))
  go_ret
  exact ⟨_, rfl, (Log_shut hok (((((hw.front 4 rfl).front 4 rfl).front 4 rfl).front 4 rfl))).front 1 rfl⟩
def doneOf (es : List Ent) (ended : List Nat) : List Ent := ended.map (fun i => es[i]?.getD ent0)
theorem doneOf_len (es : List Ent) (ended : List Nat) : (doneOf es ended).length = ended.length := by simp [doneOf]
set_option maxRecDepth 100000 in
set_option maxHeartbeats 800000 in
theorem trace_done (hw : Sat E w (Log l cores es ended :: F)) (hl : es.length ≤ 1000000) :
    Calls Try.prog 34 #[.pointer (some ⟨l, 0, none⟩)] w fun e w' => ∃ v, e = .returned v ∧ Sat E w' (Row 67 10 v ended.length (cells (doneOf es ended)) :: Log l cores es ended :: F) := by
  obtain ⟨hok, v1, v2, m, hw⟩ := Log_open hw
  have hle := hok.le
  have Hok := Kp.mk hok
  have hlt := Kp.mk hok.lt
  clear hok
  obtain ⟨A1, c1, rfl, hc1, hg1⟩ := Row_val hw 1 rfl
  obtain ⟨A2, c2, rfl, hc2, hg2⟩ := Row_val hw 2 rfl
  go_enter Try.func34, Try.ntmps34
  go_wp2_with (refine wl_load1 hw rfl 0 rfl (by kernel_rfl) (by simp only [List.getElem?_toArray, List.getElem?_cons_succ, List.getElem?_cons_zero]; exact rfl) ?_)
  go_loopw [2, 10] (fun out i wr => ∃ k : Nat, k ≤ ended.length ∧ i = .int .i64 k ∧ Sat E wr (Row 67 10 out k (cells (doneOf es (ended.take k))) :: pt l (.cells #[.int .i64 cores, .slice A1 es.length c1, .slice A2 ended.length c2, .map (some m)] 108 (0, 0)) :: Row 67 10 (.slice A1 es.length c1) es.length (cells es) :: Row 3 1 (.slice A2 ended.length c2) ended.length (ints ended) :: Mf m (IsKey (.int .i64)) (fOpen es) :: F)) (fun _ i _ => ended.length - (intOf i).toNat)
  case atStart => exact ⟨0, Nat.zero_le _, rfl, Row_nil hw⟩
  case round =>
    clear hw
    obtain ⟨k, hk, rfl, hw⟩ := hrel
    by_cases hkl : k < ended.length
    · obtain ⟨i, hi⟩ : ∃ i, ended[k]? = some i := ⟨_, List.getElem?_eq_getElem hkl⟩
      have hilt := hlt.out i (List.mem_of_getElem? hi)
      obtain ⟨en, hen⟩ : ∃ en, es[i]? = some en := ⟨_, List.getElem?_eq_getElem hilt⟩
      obtain ⟨g1, rfl⟩ := hg1 (by omega)
      obtain ⟨g2, rfl⟩ := hg2 (by omega)
      clear hg1 hg2
      have hnext : Kp (cells (doneOf es (ended.take k)) ++ en.cs.toList = cells (doneOf es (ended.take (k + 1)))) := Kp.mk (by
        rw [← cells_one, ← cells_app]
        congr 1
        rw [List.take_add_one, hi]; simp [doneOf, hen])
      obtain ⟨A3, c3, rfl, hc3, hg3⟩ := Row_val hw 0 rfl
      clear hg3
      have h1 : (k : Int) < (ended.length : Int) := by omega
      have h2 : (i : Int) < (es.length : Int) := by omega
      have hik : (ints ended)[k]? = some (.int .i64 i) := by simp [ints, hi]
      go_wp2_with (first
        | (refine wl_rowIdx k k (Nat.mul_one k) hw rfl rfl 3 rfl u_ints int_size hkl ?_)
        | (refine wl_rowLd1 (j := k) hw rfl rfl 3 rfl (by kernel_rfl) (.int .i64 i) hik ?_)
        | (refine wl_load1 hw rfl 1 rfl (by kernel_rfl) (by simp only [List.getElem?_toArray, List.getElem?_cons_succ, List.getElem?_cons_zero]; exact rfl) ?_)
        | (refine wl_rowIdx i (i * 10) rfl hw rfl rfl 2 rfl u_ents ent_size hilt ?_)
        | (refine wl_rowLdA (j := i * 10) hw rfl rfl 2 rfl en.cs ent_agg (cells_get hen) ?_)
        | (refine wl_lit1 (el := 67) (sz := 10) hw (by simp only [Act.eval, Act.put, List.setIfInBounds_toArray, List.set_cons_succ, List.set_cons_zero, gd_s, gd_0, Value.cells]; exact rfl) (by kernel_rfl) (by kernel_rfl) (by kernel_rfl) rfl (by omega) (by omega) ?_; clear hw; intro b w hw; (try simp only [List.set_cons_succ, List.set_cons_zero, List.setIfInBounds_toArray, Value.cells, List.eraseIdx_cons_succ, List.eraseIdx_cons_zero] at hw))
        | (at_builtin; go_must (refine wl_append hw 1 rfl rfl rfl (Rd_blk hw 0 rfl (n := 1) (Nat.le_refl _) en.cs.toList rfl rfl) u_ents ent_info rfl (by omega) (Ent.mem _) (by simp only [maxLen]; omega) (by omega) ?_); clear hw; intro v w hw hv; clear hv; (try simp only [List.set_cons_succ, List.set_cons_zero, List.setIfInBounds_toArray, Value.cells, List.eraseIdx_cons_succ, List.eraseIdx_cons_zero] at hw)))
      rw [hnext.out] at hw
      go_roundw
      case rel => exact ⟨k + 1, by omega, by go_num, hw.tail⟩
      case measure => simp [intOf]; omega
    · have hkl : k = ended.length := by omega
      subst hkl
      go_wp2
      go_ret
      rw [List.take_length] at hw
      refine ⟨_, rfl, ?_⟩
      have hw := (Log_shut Hok.out ((((hw.front 4 rfl).front 4 rfl).front 4 rfl).front 4 rfl)).front 1 rfl
      exact hw
end
end Go.Proofs.Ytbkfhieadnfndaa
