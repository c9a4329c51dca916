/- watch: a crowd of a core's lines, each where it is. Conditions: none. -/
import Derived.Test.YtklhmlplabkoeaaEdg
import Derived.Test.YtklhmlplabkoeaaWchQ
import Derived.Test.YtklhmlplabkoeaaWchK
set_option linter.unusedVariables false
set_option linter.unusedSimpArgs false
namespace Go.Proofs.Ytklhmlplabkoeaa
open Go.RowKit Go.Bst Go.MapKept Go.Proofs.YtklhmlplabkoeaaW.PrintLast
/-- What the counts' map tells. -/
def cntM (s : List (Int × Int)) : Value → Option Value
  | .int .i64 a => if s.countP (fun q => q.1 == a) = 0 then none else some (.int .i64 (s.countP (fun q => q.1 == a) : Nat))
  | _ => none
theorem cntM_nil (v : Value) : cntM [] v = none := by unfold cntM; split <;> simp
theorem cntM_get (s : List (Int × Int)) (a : Int) : (cntM s (.int .i64 a)).getD (.int .i64 0) = .int .i64 (s.countP (fun q => q.1 == a) : Nat) := by
  show (if s.countP (fun q => q.1 == a) = 0 then none else some (Value.int .i64 (s.countP (fun q => q.1 == a) : Nat))).getD (.int .i64 0) = _
  split
  · rename_i h; rw [h]; rfl
  · rfl
theorem cntM_upd {s : List (Int × Int)} {a k : Int} {c : Nat} (hc : s.countP (fun q => q.1 == a) = c) (v : Value) (hv : IsKey (.int .i64) v) : upd (cntM s) (.int .i64 a) (some (.int .i64 ((c : Int) + 1))) v = cntM ((a, k) :: s) v := by
  cases v <;> simp only [IsKey] at hv
  rename_i kk b
  subst hv
  by_cases h : b = a
  · subst h
    rw [upd_same]
    show _ = if ((b, k) :: s).countP (fun q => q.1 == b) = 0 then none else some (Value.int .i64 (((b, k) :: s).countP (fun q => q.1 == b) : Nat))
    rw [List.countP_cons_of_pos (by simp), hc, if_neg (by omega)]; rfl
  · rw [upd_ne _ _ _ (by intro e; injection e with _ e; exact h e)]
    show (if s.countP (fun q => q.1 == b) = 0 then none else some (Value.int .i64 (s.countP (fun q => q.1 == b) : Nat))) = if ((a, k) :: s).countP (fun q => q.1 == b) = 0 then none else some (Value.int .i64 (((a, k) :: s).countP (fun q => q.1 == b) : Nat))
    rw [List.countP_cons_of_neg (by simpa using fun e => h e.symm)]
/-- What the pairs' map tells. -/
noncomputable def pairM (s : List (Int × Int)) (v : Value) : Option Value := if (Classical.propDecidable (∃ q ∈ s, v = .agg #[.int .i64 q.1, .int .i64 q.2])).decide then some (.bool true) else none
theorem pairM_nil (v : Value) : pairM [] v = none := by unfold pairM; simp
theorem pairM_get (s : List (Int × Int)) (a k : Int) : (pairM s (.agg #[.int .i64 a, .int .i64 k])).getD (.bool false) = .bool (decide ((a, k) ∈ s)) := by
  unfold pairM
  by_cases h : (a, k) ∈ s
  · rw [if_pos (by simp only [decide_eq_true_eq]; exact ⟨(a, k), h, rfl⟩)]; simp [h]
  · rw [if_neg (by
      simp only [decide_eq_true_eq]
      rintro ⟨q, hq, e⟩
      have : a = q.1 ∧ k = q.2 := by simpa using e
      exact h (by rw [this.1, this.2]; exact hq))]; simp [h]
theorem pairM_upd (s : List (Int × Int)) (a k : Int) (v : Value) : upd (pairM s) (.agg #[.int .i64 a, .int .i64 k]) (some (.bool true)) v = pairM ((a, k) :: s) v := by
  by_cases h : v = .agg #[.int .i64 a, .int .i64 k]
  · subst h
    rw [upd_same]
    unfold pairM
    rw [if_pos (by simp only [decide_eq_true_eq]; exact ⟨(a, k), List.mem_cons_self, rfl⟩)]
  · rw [upd_ne _ _ _ h]
    unfold pairM
    have e : (∃ q ∈ s, v = .agg #[.int .i64 q.1, .int .i64 q.2]) ↔ ∃ q ∈ (a, k) :: s, v = .agg #[.int .i64 q.1, .int .i64 q.2] := by
      constructor
      · rintro ⟨q, hq, e⟩; exact ⟨q, List.mem_cons_of_mem _ hq, e⟩
      · rintro ⟨q, hq, e⟩
        rcases List.mem_cons.1 hq with rfl | hq
        · exact absurd e h
        · exact ⟨q, hq, e⟩
    rw [propext e]
theorem KI : KeyKind Try.prog 3 (IsKey (.int .i64)) := KeyKind.plain (by kernel_rfl)
theorem KPr : KeyKind Try.prog 121 IsPair := KeyKind.pair (e := 3) (by kernel_rfl) (by kernel_rfl) (by kernel_rfl) (by kernel_rfl) (by rw [show aggSize Try.prog 121 = some 2 by kernel_rfl]; simp)
theorem u_map1 : Try.prog.underlying 119 = some (.map 3 3) := by kernel_rfl
theorem u_map2 : Try.prog.underlying 120 = some (.map 121 4) := by kernel_rfl
theorem zz_int : zeroOf Try.prog 3 = some (.int .i64 0) := by kernel_rfl
theorem zz_bool : zeroOf Try.prog 4 = some (.bool false) := by kernel_rfl
theorem pair_mk {a k : Int} (h1 : i64B a) (h2 : i64B k) : IsPair (.agg #[.int .i64 a, .int .i64 k]) := ⟨a, k, rfl, fits_i64 h1, fits_i64 h2, trivial⟩
theorem tmod_in {x n : Int} (h : 0 < n) (h2 : n ≤ 1000) : i64B (Int.tmod x n) := by
  have h3 := Int.tmod_lt_of_pos x (b := n) h
  have h4 := Int.lt_tmod_of_pos x (b := n) h
  unfold i64B; omega
theorem right_six {p : Pl} (h : rightB p = true) : (1 ≤ p.ns ∧ p.ns ≤ 4) ∧ (1 ≤ p.nw ∧ p.nw ≤ 4) ∧ (1 ≤ p.fs ∧ p.fs ≤ 4) ∧ (1 ≤ p.fw ∧ p.fw ≤ 4) ∧ (1 ≤ p.banks ∧ p.banks ≤ 4) ∧ (1 ≤ p.cores ∧ p.cores ≤ 4) := by
  have h1 := rightB_iff.1 h
  have h2 := shB_iff.1 h1.1
  have h3 := h1.2.1
  unfold sixL at h3
  simp only [List.mem_cons, List.not_mem_nil, or_false, forall_eq_or_imp, forall_eq] at h3
  omega
theorem near_pair {p : Pl} (h : rightB p = true) {x : Nev} (hx : i64B x.line) {a k : Int} {ok : Bool} (e : nearP p x = (a, k, ok)) : IsPair (.agg #[.int .i64 a, .int .i64 k]) := by
  unfold nearP at e
  injection e with e1 e2
  injection e2 with e2 e3
  subst e1; subst e2
  have := right_six h
  exact pair_mk (tmod_in (by omega) (by omega)) hx
theorem far_pair {p : Pl} {i : Int} (h : rightB p = true) {x : Fav} (hx : i64B x.line) {a k : Int} {ok : Bool} (e : farP p i x = (a, k, ok)) : IsPair (.agg #[.int .i64 a, .int .i64 k]) := by
  unfold farP at e
  injection e with e1 e2
  injection e2 with e2 e3
  subst e1; subst e2
  have := right_six h
  exact pair_mk (tmod_in (by omega) (by omega)) hx
section
variable {E : Env} {w : World} {F : List HP} {p : Pl}
attribute [local irreducible] andI hasF knowsB knownF crowdF cntM pairM lineB wpList Calls Code.wp Code.wpN Oper.wp Go.Proofs.YtklhmlplabkoeaaW.PrintLast.wpAnyLast
set_option maxRecDepth 100000 in
theorem wch_near1 {bp : Nat} {x : Nev} (hp : ∀ w', Sat E w' F → w'.heap[bp]? = some (.cells p.cs 28 (0, 0))) (hrt : rightB p = true) (hw : Sat E w F) :
    Calls Try.prog 45 #[.agg x.cs, .pointer (some ⟨bp, 0, none⟩)] w fun e w' => e = .returned (.tuple #[.int .i64 (nearP p x).1, .int .i64 (nearP p x).2.1, .bool (nearP p x).2.2]) ∧ Sat E w' F := by
  have HP := Kp.mk hp
  have h6 := right_six hrt
  clear hp
  obtain ⟨z, hz⟩ : ∃ z, Kp (lineB p x.line = z) := ⟨_, Kp.mk rfl⟩
  have e : nearP p x = (Int.tmod x.line p.ns, x.line, z) := by unfold nearP; rw [hz.out]
  rw [e]
  dsimp only
  clear e
  cases z
  all_goals (
    go_enter Try.func45, Try.ntmps45
    go_upto_region 2 with (first
      | (refine wl_run (d := some 9) (rn_blkA rfl rfl (by rw [plan_agg, Pl.size]) (HP.out _ (by first | exact hw | exact hw.tail | exact hw.tail.tail | exact hw.tail.tail.tail | exact hw.tail.tail.tail.tail | exact hw.tail.tail.tail.tail.tail | exact hw.tail.tail.tail.tail.tail.tail))) ?_)
      | (go_at_call 27; go_must (refine (Calls.mono (reg_Data (p := p) (n := x.line) hw) ?_)); clear hw; rintro e w ⟨rfl, hw⟩; rw [hz.out]; simp only [Bool.false_eq_true, if_false, if_true]; (try simp only [List.set_cons_succ, List.set_cons_zero, List.setIfInBounds_toArray, Value.cells, List.eraseIdx_cons_succ, List.eraseIdx_cons_zero] at hw))
      | (refine wl_box (d := some 2) hw _ (by simp only [Act.eval, Act.put, List.setIfInBounds_toArray, List.set_cons_succ, List.set_cons_zero, gd_s, gd_0, Value.cells]; exact rfl) ?_; clear hw; intro b2 w hw; (try simp only [List.set_cons_succ, List.set_cons_zero, List.setIfInBounds_toArray, Value.cells, List.eraseIdx_cons_succ, List.eraseIdx_cons_zero] at hw)) | (refine wb_load1 (d := some 11)  rfl (by first | exact hw.read 0 rfl | exact hw.read 1 rfl | exact hw.read 2 rfl | exact hw.read 3 rfl | exact hw.read 4 rfl) (by decide +kernel) (by exact Nev.c0 _) ?_))
    have hS0 := hw
    refine startS (ds := []) hS0 #[false, false, false, false, false, false, false, false, false, false, false, false] (by kernel_rfl) rfl (by rfl) ?_
    clear hS0; intro hS
    replace hw := hw.drew; generalize w.drew = w at hw hS ⊢
    (refine pureE (i := 0) (oi := { dst := some 15, op := Op.fieldAddr 38 (Operand.tmp 2) 0, type := 0, pos := "watch.go:92", after := #[], guard := none }) (N := some 15) #[true, false, false, false, false, false, false, false, false, false, false, false] rfl rfl (by kernel_rfl) (fun _ _ _ _ h => h) ?_; apply Exists.intro; refine ⟨Or.inl ⟨by rfl, ?_⟩, ?_⟩; · (intro w0; go_simp; try with_reducible rfl))
    try simp only [Act.put, List.setIfInBounds_toArray, List.set_cons_succ, List.set_cons_zero]
    (refine pureE (i := 2) (oi := { dst := some 17, op := Op.fieldAddr 28 (Operand.tmp 1) 7, type := 0, pos := "watch.go:92", after := #[], guard := none }) (N := some 17) #[true, false, true, false, false, false, false, false, false, false, false, false] rfl rfl (by kernel_rfl) (fun _ _ _ _ h => h) ?_; apply Exists.intro; refine ⟨Or.inl ⟨by rfl, ?_⟩, ?_⟩; · (intro w0; go_simp; try with_reducible rfl))
    try simp only [Act.put, List.setIfInBounds_toArray, List.set_cons_succ, List.set_cons_zero]
    (refine pureE (i := 3) (oi := { dst := some 18, op := Op.fieldAddr 24 (Operand.tmp 17) 0, type := 0, pos := "watch.go:92", after := #[eD 2], guard := none }) (N := some 18) #[true, false, true, true, false, false, false, false, false, false, false, false] rfl rfl (by kernel_rfl) (fun _ _ _ _ h => h) ?_; apply Exists.intro; refine ⟨Or.inl ⟨by rfl, ?_⟩, ?_⟩; · (intro w0; go_simp; try with_reducible rfl))
    try simp only [Act.put, List.setIfInBounds_toArray, List.set_cons_succ, List.set_cons_zero]
    (refine pureE (i := 6) (oi := { dst := some 21, op := Op.fieldAddr 38 (Operand.tmp 2) 0, type := 0, pos := "watch.go:92", after := #[{ on := 9, ground := Ground.gcOnly Departure.lateStores }], guard := none }) (N := some 21) #[true, false, true, true, false, false, true, false, false, false, false, false] rfl rfl (by kernel_rfl) (fun _ _ _ _ h => h) ?_; apply Exists.intro; refine ⟨Or.inl ⟨by rfl, ?_⟩, ?_⟩; · (intro w0; go_simp; try with_reducible rfl))
    try simp only [Act.put, List.setIfInBounds_toArray, List.set_cons_succ, List.set_cons_zero]
    (refine pureE (i := 8) (oi := { dst := some 23, op := Op.move (Operand.tmp 7), type := 4, pos := "watch.go:92", after := #[{ on := 10, ground := Ground.gcOnly Departure.lateStores }], guard := none }) (N := some 23) #[true, false, true, true, false, false, true, false, true, false, false, false] rfl rfl (by kernel_rfl) (fun _ _ _ _ h => h) ?_; apply Exists.intro; refine ⟨Or.inl ⟨by rfl, ?_⟩, ?_⟩; · (intro w0; go_simp; try with_reducible rfl))
    try simp only [Act.put, List.setIfInBounds_toArray, List.set_cons_succ, List.set_cons_zero]
    (refine takeE (i := 1) (oi := { dst := some 16, op := Op.load 3 (Operand.tmp 15), type := 3, pos := "watch.go:92", after := #[eD 0], guard := none }) (N := some 16) #[true, true, true, true, false, false, true, false, true, false, false, false] rfl rfl (by kernel_rfl) (fun _ _ _ _ h => h) hS ?_; apply Exists.intro; refine ⟨Or.inl ⟨by rfl, ?_⟩, ?_⟩; · (intro w0 h; first | (exact rnb_load1 rfl rfl (by first | exact h.read 0 rfl | exact h.read 1 rfl | exact h.read 2 rfl | exact h.read 3 rfl | exact h.read 4 rfl) (by decide +kernel) (by exact Nev.c0 _)) | (go_simp; with_reducible rfl)))
    try simp only [Act.put, List.setIfInBounds_toArray, List.set_cons_succ, List.set_cons_zero]
    (refine takeE (i := 4) (oi := { dst := some 19, op := Op.load 3 (Operand.tmp 18), type := 3, pos := "watch.go:92", after := #[eD 3], guard := none }) (N := some 19) #[true, true, true, true, true, false, true, false, true, false, false, false] rfl rfl (by kernel_rfl) (fun _ _ _ _ h => h) hS ?_; apply Exists.intro; refine ⟨Or.inl ⟨by rfl, ?_⟩, ?_⟩; · (intro w0 h; first | (exact rn_blk1 rfl rfl (by decide +kernel) (HP.out _ (by first | exact h | exact h.tail | exact h.tail.tail | exact h.tail.tail.tail | exact h.tail.tail.tail.tail | exact h.tail.tail.tail.tail.tail | exact h.tail.tail.tail.tail.tail.tail)) (by exact Pl.c7 _)) | (go_simp; with_reducible rfl)))
    try simp only [Act.put, List.setIfInBounds_toArray, List.set_cons_succ, List.set_cons_zero]
    (refine pureE (i := 5) (oi := { dst := some 20, op := Op.binOp BinOp.rem 3 (Operand.tmp 16) (Operand.tmp 19) 3, type := 3, pos := "watch.go:92", after := #[eD 1, eD 4], guard := none }) (N := some 20) #[true, true, true, true, true, true, true, false, true, false, false, false] rfl rfl (by kernel_rfl) (fun _ _ _ _ h => h) ?_; apply Exists.intro; refine ⟨Or.inl ⟨by rfl, ?_⟩, ?_⟩; · (intro w0; first | (exact rn_ctmod rfl (by exact rfl) (by exact rfl) (by omega) (by omega)) | (exact (rn_irem rfl (by exact rfl) (by exact rfl) (by omega) (by omega))) | (go_simp; try with_reducible rfl)))
    try simp only [Act.put, List.setIfInBounds_toArray, List.set_cons_succ, List.set_cons_zero]
    (refine pureE (i := 9) (oi := { dst := some 3, op := Op.assign (Operand.tmp 20), type := 3, pos := "watch.go:92", after := #[eD 5, eP 0, eP 1, eP 2, eP 3, eP 4, eP 5, { on := 6, ground := Ground.textOnly Departure.lateStores }, { on := 7, ground := Ground.textOnly Departure.lateStores }, { on := 8, ground := Ground.textOnly Departure.lateStores }], guard := none }) (N := some 3) #[true, true, true, true, true, true, true, false, true, true, false, false] rfl rfl (by kernel_rfl) (fun _ _ _ _ h => h) ?_; apply Exists.intro; refine ⟨Or.inl ⟨by rfl, ?_⟩, ?_⟩; · (intro w0; go_simp; try with_reducible rfl))
    try simp only [Act.put, List.setIfInBounds_toArray, List.set_cons_succ, List.set_cons_zero]
    (refine takeE (i := 7) (oi := { dst := some 22, op := Op.load 3 (Operand.tmp 21), type := 3, pos := "watch.go:92", after := #[eD 6, { on := 9, ground := Ground.gcOnly Departure.lateStores }], guard := none }) (N := some 22) #[true, true, true, true, true, true, true, true, true, true, false, false] rfl rfl (by kernel_rfl) (fun _ _ _ _ h => h) hS ?_; apply Exists.intro; refine ⟨Or.inl ⟨by rfl, ?_⟩, ?_⟩; · (intro w0 h; first | (exact rnb_load1 rfl rfl (by first | exact h.read 0 rfl | exact h.read 1 rfl | exact h.read 2 rfl | exact h.read 3 rfl | exact h.read 4 rfl) (by decide +kernel) (by exact Nev.c0 _)) | (go_simp; with_reducible rfl)))
    try simp only [Act.put, List.setIfInBounds_toArray, List.set_cons_succ, List.set_cons_zero]
    (refine pureE (i := 10) (oi := { dst := some 4, op := Op.assign (Operand.tmp 22), type := 3, pos := "watch.go:92", after := #[eD 7, eC 9, eP 0, eP 1, eP 2, eP 3, eP 4, eP 5, eP 6, eP 7, { on := 8, ground := Ground.textOnly Departure.lateStores }, eP 9], guard := none }) (N := some 4) #[true, true, true, true, true, true, true, true, true, true, true, false] rfl rfl (by kernel_rfl) (fun _ _ _ _ h => h) ?_; apply Exists.intro; refine ⟨Or.inl ⟨by rfl, ?_⟩, ?_⟩; · (intro w0; go_simp; try with_reducible rfl))
    try simp only [Act.put, List.setIfInBounds_toArray, List.set_cons_succ, List.set_cons_zero]
    (refine pureE (i := 11) (oi := { dst := some 5, op := Op.assign (Operand.tmp 23), type := 4, pos := "watch.go:92", after := #[eD 8, eC 10, eP 0, eP 1, eP 2, eP 3, eP 4, eP 5, eP 6, eP 7, eP 8, eP 9, eP 10], guard := none }) (N := some 5) #[true, true, true, true, true, true, true, true, true, true, true, true] rfl rfl (by kernel_rfl) (fun _ _ _ _ h => h) ?_; apply Exists.intro; refine ⟨Or.inl ⟨by rfl, ?_⟩, ?_⟩; · (intro w0; go_simp; try with_reducible rfl))
    try simp only [Act.put, List.setIfInBounds_toArray, List.set_cons_succ, List.set_cons_zero]
    refine done_ (by kernel_rfl) ?_; clear hS
    go_wp2
    (refine ret_tmp3 rfl _ _ _ rfl rfl rfl rfl ?_)
    exact ⟨rfl, (Sat.gets hw (by repeat (first | exact Gets.nil | exact Gets.refl _ | refine Gets.get 0 rfl ?_ | refine Gets.get 1 rfl ?_ | refine Gets.get 2 rfl ?_ | refine Gets.get 3 rfl ?_ | refine Gets.get 4 rfl ?_ | refine Gets.get 5 rfl ?_ | refine Gets.drop ?_)))⟩)
set_option maxRecDepth 100000 in
theorem wch_far1 {bp bi : Nat} {i : Int} {x : Fav} (hp : ∀ w', Sat E w' F → w'.heap[bp]? = some (.cells p.cs 28 (0, 0))) (hi : ∀ w', Sat E w' F → w'.heap[bi]? = some (.cells #[.int .i64 i] 3 (0, 0))) (hrt : rightB p = true) (hxi : i64B x.line) (hw : Sat E w F) :
    Calls Try.prog 47 #[.agg x.cs, .pointer (some ⟨bp, 0, none⟩), .pointer (some ⟨bi, 0, none⟩)] w fun e w' => e = .returned (.tuple #[.int .i64 (farP p i x).1, .int .i64 (farP p i x).2.1, .bool (farP p i x).2.2]) ∧ Sat E w' F := by
  have HP := Kp.mk hp
  have HI := Kp.mk hi
  have h6 := right_six hrt
  clear hp hi
  obtain ⟨z, hz⟩ : ∃ z, Kp (lineB p x.line = z) := ⟨_, Kp.mk rfl⟩
  obtain ⟨q, hq⟩ : ∃ q, Kp (Int.tmod x.line p.banks = q) := ⟨_, Kp.mk rfl⟩
  have e : farP p i x = (Int.tmod (Int.tdiv x.line p.banks) p.fs, x.line, z && decide (q = i)) := by unfold farP; rw [hz.out, hq.out]
  rw [e]
  dsimp only
  clear e
  have hc : z = false ∨ (z = true ∧ q = i) ∨ (z = true ∧ ¬ q = i) := by
    cases z
    · exact .inl rfl
    · by_cases h : q = i
      · exact .inr (.inl ⟨rfl, h⟩)
      · exact .inr (.inr ⟨rfl, h⟩)
  rcases hc with h1 | ⟨h1, h2⟩ | ⟨h1, h2⟩
  all_goals (
    subst h1
    go_enter Try.func47, Try.ntmps47
    go_upto_region 2 with (first
      | (refine wl_run (d := some 10) (rn_blkA rfl rfl (by rw [plan_agg, Pl.size]) (HP.out _ (by first | exact hw | exact hw.tail | exact hw.tail.tail | exact hw.tail.tail.tail | exact hw.tail.tail.tail.tail | exact hw.tail.tail.tail.tail.tail | exact hw.tail.tail.tail.tail.tail.tail))) ?_)
      | (go_at_call 48; go_must (refine (Calls.mono (reg_Bank (p := p) (n := x.line) hw) ?_)); clear hw; rintro e w ⟨rfl, hw⟩; rw [hz.out, hq.out]; simp only [Bool.false_eq_true, if_false, if_true]; (try simp only [List.set_cons_succ, List.set_cons_zero, List.setIfInBounds_toArray, Value.cells, List.eraseIdx_cons_succ, List.eraseIdx_cons_zero] at hw))
      | (refine wl_box (d := some 3) hw _ (by simp only [Act.eval, Act.put, List.setIfInBounds_toArray, List.set_cons_succ, List.set_cons_zero, gd_s, gd_0, Value.cells]; exact rfl) ?_; clear hw; intro b3 w hw; (try simp only [List.set_cons_succ, List.set_cons_zero, List.setIfInBounds_toArray, Value.cells, List.eraseIdx_cons_succ, List.eraseIdx_cons_zero] at hw)) | (refine wb_load1 (d := some 12)  rfl (by first | exact hw.read 0 rfl | exact hw.read 1 rfl | exact hw.read 2 rfl | exact hw.read 3 rfl | exact hw.read 4 rfl) (by decide +kernel) (by exact Fav.c0 _) ?_))
    have hS0 := hw
    refine startS (ds := []) hS0 #[false, false, false, false, false, false, false, false, false, false, false, false, false, false, false, false, false, false, false, false] (by kernel_rfl) rfl (by rfl) ?_
    clear hS0; intro hS
    replace hw := hw.drew; generalize w.drew = w at hw hS ⊢
    (refine pureE (i := 0) (oi := { dst := some 16, op := Op.fieldAddr 81 (Operand.tmp 3) 0, type := 0, pos := "watch.go:98", after := #[], guard := none }) (N := some 16) #[true, false, false, false, false, false, false, false, false, false, false, false, false, false, false, false, false, false, false, false] rfl rfl (by kernel_rfl) (fun _ _ _ _ h => h) ?_; apply Exists.intro; refine ⟨Or.inl ⟨by rfl, ?_⟩, ?_⟩; · (intro w0; go_simp; try with_reducible rfl))
    try simp only [Act.put, List.setIfInBounds_toArray, List.set_cons_succ, List.set_cons_zero]
    (refine pureE (i := 2) (oi := { dst := some 18, op := Op.fieldAddr 28 (Operand.tmp 1) 1, type := 0, pos := "watch.go:98", after := #[], guard := none }) (N := some 18) #[true, false, true, false, false, false, false, false, false, false, false, false, false, false, false, false, false, false, false, false] rfl rfl (by kernel_rfl) (fun _ _ _ _ h => h) ?_; apply Exists.intro; refine ⟨Or.inl ⟨by rfl, ?_⟩, ?_⟩; · (intro w0; go_simp; try with_reducible rfl))
    try simp only [Act.put, List.setIfInBounds_toArray, List.set_cons_succ, List.set_cons_zero]
    (refine pureE (i := 5) (oi := { dst := some 21, op := Op.fieldAddr 28 (Operand.tmp 1) 8, type := 0, pos := "watch.go:98", after := #[], guard := none }) (N := some 21) #[true, false, true, false, false, true, false, false, false, false, false, false, false, false, false, false, false, false, false, false] rfl rfl (by kernel_rfl) (fun _ _ _ _ h => h) ?_; apply Exists.intro; refine ⟨Or.inl ⟨by rfl, ?_⟩, ?_⟩; · (intro w0; go_simp; try with_reducible rfl))
    try simp only [Act.put, List.setIfInBounds_toArray, List.set_cons_succ, List.set_cons_zero]
    (refine pureE (i := 6) (oi := { dst := some 22, op := Op.fieldAddr 24 (Operand.tmp 21) 0, type := 0, pos := "watch.go:98", after := #[eD 5], guard := none }) (N := some 22) #[true, false, true, false, false, true, true, false, false, false, false, false, false, false, false, false, false, false, false, false] rfl rfl (by kernel_rfl) (fun _ _ _ _ h => h) ?_; apply Exists.intro; refine ⟨Or.inl ⟨by rfl, ?_⟩, ?_⟩; · (intro w0; go_simp; try with_reducible rfl))
    try simp only [Act.put, List.setIfInBounds_toArray, List.set_cons_succ, List.set_cons_zero]
    (refine pureE (i := 9) (oi := { dst := some 25, op := Op.fieldAddr 81 (Operand.tmp 3) 0, type := 0, pos := "watch.go:98", after := #[{ on := 17, ground := Ground.gcOnly Departure.lateStores }], guard := none }) (N := some 25) #[true, false, true, false, false, true, true, false, false, true, false, false, false, false, false, false, false, false, false, false] rfl rfl (by kernel_rfl) (fun _ _ _ _ h => h) ?_; apply Exists.intro; refine ⟨Or.inl ⟨by rfl, ?_⟩, ?_⟩; · (intro w0; go_simp; try with_reducible rfl))
    try simp only [Act.put, List.setIfInBounds_toArray, List.set_cons_succ, List.set_cons_zero]
    (refine pureE (i := 11) (oi := { dst := some 27, op := Op.move (Operand.tmp 8), type := 4, pos := "watch.go:98", after := #[], guard := none }) (N := some 27) #[true, false, true, false, false, true, true, false, false, true, false, true, false, false, false, false, false, false, false, false] rfl rfl (by kernel_rfl) (fun _ _ _ _ h => h) ?_; apply Exists.intro; refine ⟨Or.inl ⟨by rfl, ?_⟩, ?_⟩; · (intro w0; go_simp; try with_reducible rfl))
    try simp only [Act.put, List.setIfInBounds_toArray, List.set_cons_succ, List.set_cons_zero]
    (refine pureE (i := 12) (oi := { dst := some 28, op := Op.move (Operand.tmp 27), type := 4, pos := "watch.go:98", after := #[eD 11], guard := none }) (N := some 28) #[true, false, true, false, false, true, true, false, false, true, false, true, true, false, false, false, false, false, false, false] rfl rfl (by kernel_rfl) (fun _ _ _ _ h => h) ?_; apply Exists.intro; refine ⟨Or.inl ⟨by rfl, ?_⟩, ?_⟩; · (intro w0; go_simp; try with_reducible rfl))
    try simp only [Act.put, List.setIfInBounds_toArray, List.set_cons_succ, List.set_cons_zero]
    refine pureE (i := 13) (oi := { dst := some 29, op := Op.move (Operand.tmp 7), type := 3, pos := "watch.go:98", after := #[eG 12, { on := 18, ground := Ground.gcOnly Departure.lateStores }], guard := some (12, true) }) (N := some 29) #[true, false, true, false, false, true, true, false, false, true, false, true, true, true, false, false, false, false, false, false] rfl rfl (by kernel_rfl) (fun _ _ _ _ h => h) ?_; first | (apply Exists.intro; refine ⟨Or.inl ⟨by rfl, ?_⟩, ?_⟩; · (intro w0; go_simp; try with_reducible rfl)) | (refine ⟨undef, Or.inr ⟨by rfl, rfl⟩, ?_⟩)
    try simp only [Act.put, List.setIfInBounds_toArray, List.set_cons_succ, List.set_cons_zero]
    (refine takeE (i := 1) (oi := { dst := some 17, op := Op.load 3 (Operand.tmp 16), type := 3, pos := "watch.go:98", after := #[eD 0], guard := none }) (N := some 17) #[true, true, true, false, false, true, true, false, false, true, false, true, true, true, false, false, false, false, false, false] rfl rfl (by kernel_rfl) (fun _ _ _ _ h => h) hS ?_; apply Exists.intro; refine ⟨Or.inl ⟨by rfl, ?_⟩, ?_⟩; · (intro w0 h; first | (exact rnb_load1 rfl rfl (by first | exact h.read 0 rfl | exact h.read 1 rfl | exact h.read 2 rfl | exact h.read 3 rfl | exact h.read 4 rfl) (by decide +kernel) (by exact Fav.c0 _)) | (go_simp; with_reducible rfl)))
    try simp only [Act.put, List.setIfInBounds_toArray, List.set_cons_succ, List.set_cons_zero]
    (refine takeE (i := 3) (oi := { dst := some 19, op := Op.load 3 (Operand.tmp 18), type := 3, pos := "watch.go:98", after := #[eD 2], guard := none }) (N := some 19) #[true, true, true, true, false, true, true, false, false, true, false, true, true, true, false, false, false, false, false, false] rfl rfl (by kernel_rfl) (fun _ _ _ _ h => h) hS ?_; apply Exists.intro; refine ⟨Or.inl ⟨by rfl, ?_⟩, ?_⟩; · (intro w0 h; first | (exact rn_blk1 rfl rfl (by decide +kernel) (HP.out _ (by first | exact h | exact h.tail | exact h.tail.tail | exact h.tail.tail.tail | exact h.tail.tail.tail.tail | exact h.tail.tail.tail.tail.tail | exact h.tail.tail.tail.tail.tail.tail)) (by exact Pl.c1 _)) | (exact rn_blk1 rfl rfl (by decide +kernel) (HP.out _ (by first | exact h | exact h.tail | exact h.tail.tail | exact h.tail.tail.tail | exact h.tail.tail.tail.tail | exact h.tail.tail.tail.tail.tail | exact h.tail.tail.tail.tail.tail.tail)) (by exact Pl.c9 _)) | (exact rn_blk1 rfl rfl (by decide +kernel) (HI.out _ (by first | exact h | exact h.tail | exact h.tail.tail | exact h.tail.tail.tail | exact h.tail.tail.tail.tail | exact h.tail.tail.tail.tail.tail | exact h.tail.tail.tail.tail.tail.tail)) (v := .int .i64 i) rfl) | (go_simp; with_reducible rfl)))
    try simp only [Act.put, List.setIfInBounds_toArray, List.set_cons_succ, List.set_cons_zero]
    (refine pureE (i := 4) (oi := { dst := some 20, op := Op.binOp BinOp.quo 3 (Operand.tmp 17) (Operand.tmp 19) 3, type := 3, pos := "watch.go:98", after := #[eD 1, eD 3], guard := none }) (N := some 20) #[true, true, true, true, true, true, true, false, false, true, false, true, true, true, false, false, false, false, false, false] rfl rfl (by kernel_rfl) (fun _ _ _ _ h => h) ?_; apply Exists.intro; refine ⟨Or.inl ⟨by rfl, ?_⟩, ?_⟩; · (intro w0; first | (exact rn_ctdiv hxi rfl (by exact rfl) (by exact rfl) (by omega)) | (exact (rn_cquo rfl (by exact rfl) (by exact rfl) (by omega) (by omega) (by omega))) | (go_simp; try with_reducible rfl)))
    try simp only [Act.put, List.setIfInBounds_toArray, List.set_cons_succ, List.set_cons_zero]
    (refine takeE (i := 7) (oi := { dst := some 23, op := Op.load 3 (Operand.tmp 22), type := 3, pos := "watch.go:98", after := #[eD 6], guard := none }) (N := some 23) #[true, true, true, true, true, true, true, true, false, true, false, true, true, true, false, false, false, false, false, false] rfl rfl (by kernel_rfl) (fun _ _ _ _ h => h) hS ?_; apply Exists.intro; refine ⟨Or.inl ⟨by rfl, ?_⟩, ?_⟩; · (intro w0 h; first | (exact rn_blk1 rfl rfl (by decide +kernel) (HP.out _ (by first | exact h | exact h.tail | exact h.tail.tail | exact h.tail.tail.tail | exact h.tail.tail.tail.tail | exact h.tail.tail.tail.tail.tail | exact h.tail.tail.tail.tail.tail.tail)) (by exact Pl.c1 _)) | (exact rn_blk1 rfl rfl (by decide +kernel) (HP.out _ (by first | exact h | exact h.tail | exact h.tail.tail | exact h.tail.tail.tail | exact h.tail.tail.tail.tail | exact h.tail.tail.tail.tail.tail | exact h.tail.tail.tail.tail.tail.tail)) (by exact Pl.c9 _)) | (exact rn_blk1 rfl rfl (by decide +kernel) (HI.out _ (by first | exact h | exact h.tail | exact h.tail.tail | exact h.tail.tail.tail | exact h.tail.tail.tail.tail | exact h.tail.tail.tail.tail.tail | exact h.tail.tail.tail.tail.tail.tail)) (v := .int .i64 i) rfl) | (go_simp; with_reducible rfl)))
    try simp only [Act.put, List.setIfInBounds_toArray, List.set_cons_succ, List.set_cons_zero]
    (refine pureE (i := 8) (oi := { dst := some 24, op := Op.binOp BinOp.rem 3 (Operand.tmp 20) (Operand.tmp 23) 3, type := 3, pos := "watch.go:98", after := #[eD 4, eD 7], guard := none }) (N := some 24) #[true, true, true, true, true, true, true, true, true, true, false, true, true, true, false, false, false, false, false, false] rfl rfl (by kernel_rfl) (fun _ _ _ _ h => h) ?_; apply Exists.intro; refine ⟨Or.inl ⟨by rfl, ?_⟩, ?_⟩; · (intro w0; first | (exact rn_ctmod rfl (by exact rfl) (by exact rfl) (by omega) (by omega)) | (exact (rn_irem rfl (by exact rfl) (by exact rfl) (by omega) (by omega))) | (go_simp; try with_reducible rfl)))
    try simp only [Act.put, List.setIfInBounds_toArray, List.set_cons_succ, List.set_cons_zero]
    (refine pureE (i := 17) (oi := { dst := some 4, op := Op.assign (Operand.tmp 24), type := 3, pos := "watch.go:98", after := #[eD 8, eC 12, eP 0, eP 1, eP 2, eP 3, eP 4, eP 5, eP 6, eP 7, eP 8, { on := 9, ground := Ground.textOnly Departure.lateStores }, { on := 10, ground := Ground.textOnly Departure.lateStores }, { on := 11, ground := Ground.textOnly Departure.lateStores }, { on := 12, ground := Ground.textOnly Departure.lateStores }, { on := 13, ground := Ground.textOnly Departure.lateStores }, { on := 14, ground := Ground.textOnly Departure.lateStores }, { on := 15, ground := Ground.textOnly Departure.lateStores }, { on := 16, ground := Ground.textOnly Departure.lateStores }], guard := none }) (N := some 4) #[true, true, true, true, true, true, true, true, true, true, false, true, true, true, false, false, false, true, false, false] rfl rfl (by kernel_rfl) (fun _ _ _ _ h => h) ?_; apply Exists.intro; refine ⟨Or.inl ⟨by rfl, ?_⟩, ?_⟩; · (intro w0; go_simp; try with_reducible rfl))
    try simp only [Act.put, List.setIfInBounds_toArray, List.set_cons_succ, List.set_cons_zero]
    (refine takeE (i := 10) (oi := { dst := some 26, op := Op.load 3 (Operand.tmp 25), type := 3, pos := "watch.go:98", after := #[eD 9, { on := 17, ground := Ground.gcOnly Departure.lateStores }], guard := none }) (N := some 26) #[true, true, true, true, true, true, true, true, true, true, true, true, true, true, false, false, false, true, false, false] rfl rfl (by kernel_rfl) (fun _ _ _ _ h => h) hS ?_; apply Exists.intro; refine ⟨Or.inl ⟨by rfl, ?_⟩, ?_⟩; · (intro w0 h; first | (exact rnb_load1 rfl rfl (by first | exact h.read 0 rfl | exact h.read 1 rfl | exact h.read 2 rfl | exact h.read 3 rfl | exact h.read 4 rfl) (by decide +kernel) (by exact Fav.c0 _)) | (go_simp; with_reducible rfl)))
    try simp only [Act.put, List.setIfInBounds_toArray, List.set_cons_succ, List.set_cons_zero]
    (refine pureE (i := 18) (oi := { dst := some 5, op := Op.assign (Operand.tmp 26), type := 3, pos := "watch.go:98", after := #[eD 10, eC 17, eP 0, eP 1, eP 2, eP 3, eP 4, eP 5, eP 6, eP 7, eP 8, eP 9, eP 10, { on := 11, ground := Ground.textOnly Departure.lateStores }, { on := 12, ground := Ground.textOnly Departure.lateStores }, { on := 13, ground := Ground.textOnly Departure.lateStores }, { on := 14, ground := Ground.textOnly Departure.lateStores }, { on := 15, ground := Ground.textOnly Departure.lateStores }, { on := 16, ground := Ground.textOnly Departure.lateStores }, eP 17], guard := none }) (N := some 5) #[true, true, true, true, true, true, true, true, true, true, true, true, true, true, false, false, false, true, true, false] rfl rfl (by kernel_rfl) (fun _ _ _ _ h => h) ?_; apply Exists.intro; refine ⟨Or.inl ⟨by rfl, ?_⟩, ?_⟩; · (intro w0; go_simp; try with_reducible rfl))
    try simp only [Act.put, List.setIfInBounds_toArray, List.set_cons_succ, List.set_cons_zero]
    first | (refine takeE (i := 14) (oi := { dst := some 30, op := Op.load 3 (Operand.tmp 2), type := 3, pos := "watch.go:98", after := #[eG 12, { on := 18, ground := Ground.gcOnly Departure.lateStores }], guard := some (12, true) }) (N := some 30) #[true, true, true, true, true, true, true, true, true, true, true, true, true, true, true, false, false, true, true, false] rfl rfl (by kernel_rfl) (fun _ _ _ _ h => h) hS ?_; apply Exists.intro; refine ⟨Or.inl ⟨by rfl, ?_⟩, ?_⟩; · (intro w0 h; first | (exact rn_blk1 rfl rfl (by decide +kernel) (HP.out _ (by first | exact h | exact h.tail | exact h.tail.tail | exact h.tail.tail.tail | exact h.tail.tail.tail.tail | exact h.tail.tail.tail.tail.tail | exact h.tail.tail.tail.tail.tail.tail)) (by exact Pl.c1 _)) | (exact rn_blk1 rfl rfl (by decide +kernel) (HP.out _ (by first | exact h | exact h.tail | exact h.tail.tail | exact h.tail.tail.tail | exact h.tail.tail.tail.tail | exact h.tail.tail.tail.tail.tail | exact h.tail.tail.tail.tail.tail.tail)) (by exact Pl.c9 _)) | (exact rn_blk1 rfl rfl (by decide +kernel) (HI.out _ (by first | exact h | exact h.tail | exact h.tail.tail | exact h.tail.tail.tail | exact h.tail.tail.tail.tail | exact h.tail.tail.tail.tail.tail | exact h.tail.tail.tail.tail.tail.tail)) (v := .int .i64 i) rfl) | (go_simp; with_reducible rfl))) | (refine pureE (i := 14) (oi := { dst := some 30, op := Op.load 3 (Operand.tmp 2), type := 3, pos := "watch.go:98", after := #[eG 12, { on := 18, ground := Ground.gcOnly Departure.lateStores }], guard := some (12, true) }) (N := some 30) #[true, true, true, true, true, true, true, true, true, true, true, true, true, true, true, false, false, true, true, false] rfl rfl (by kernel_rfl) (fun _ _ _ _ h => h) ⟨undef, Or.inr ⟨by rfl, rfl⟩, ?_⟩)
    try simp only [Act.put, List.setIfInBounds_toArray, List.set_cons_succ, List.set_cons_zero]
    refine pureE (i := 15) (oi := { dst := some 31, op := Op.binOp BinOp.eql 3 (Operand.tmp 29) (Operand.tmp 30) 3, type := 4, pos := "watch.go:98", after := #[eD 13, eD 14, eG 12, { on := 18, ground := Ground.gcOnly Departure.lateStores }], guard := some (12, true) }) (N := some 31) #[true, true, true, true, true, true, true, true, true, true, true, true, true, true, true, true, false, true, true, false] rfl rfl (by kernel_rfl) (fun _ _ _ _ h => h) ?_; first | (apply Exists.intro; refine ⟨Or.inl ⟨by rfl, ?_⟩, ?_⟩; · (intro w0; first | (exact (rn_ceql rfl (by exact rfl) (by exact rfl) true (decide_eq_true (by omega)))) | (exact (rn_ceql rfl (by exact rfl) (by exact rfl) false (decide_eq_false (by omega)))) | (go_simp; try with_reducible rfl))) | (refine ⟨undef, Or.inr ⟨by rfl, rfl⟩, ?_⟩)
    try simp only [Act.put, List.setIfInBounds_toArray, List.set_cons_succ, List.set_cons_zero]
    (refine pureE (i := 16) (oi := { dst := some 32, op := Op.pick (Operand.tmp 28) (Operand.tmp 31) (Operand.const (Value.bool false)), type := 4, pos := "watch.go:98", after := #[eD 12, eD 15, { on := 18, ground := Ground.gcOnly Departure.lateStores }], guard := none }) (N := some 32) #[true, true, true, true, true, true, true, true, true, true, true, true, true, true, true, true, true, true, true, false] rfl rfl (by kernel_rfl) (fun _ _ _ _ h => h) ?_; apply Exists.intro; refine ⟨Or.inl ⟨by rfl, ?_⟩, ?_⟩; · (intro w0; go_simp; try with_reducible rfl))
    try simp only [Act.put, List.setIfInBounds_toArray, List.set_cons_succ, List.set_cons_zero]
    (refine pureE (i := 19) (oi := { dst := some 6, op := Op.assign (Operand.tmp 32), type := 4, pos := "watch.go:98", after := #[eD 16, eC 18, eP 0, eP 1, eP 2, eP 3, eP 4, eP 5, eP 6, eP 7, eP 8, eP 9, eP 10, eP 11, eP 12, eP 13, eP 14, eP 15, eP 16, eP 17, eP 18], guard := none }) (N := some 6) #[true, true, true, true, true, true, true, true, true, true, true, true, true, true, true, true, true, true, true, true] rfl rfl (by kernel_rfl) (fun _ _ _ _ h => h) ?_; apply Exists.intro; refine ⟨Or.inl ⟨by rfl, ?_⟩, ?_⟩; · (intro w0; go_simp; try with_reducible rfl))
    try simp only [Act.put, List.setIfInBounds_toArray, List.set_cons_succ, List.set_cons_zero]
    refine done_ (by kernel_rfl) ?_; clear hS
    go_wp2
    (refine ret_tmp3 rfl _ _ _ rfl rfl rfl rfl ?_)
    exact ⟨by first | rfl | (simp [h2]), (Sat.gets hw (by repeat (first | exact Gets.nil | exact Gets.refl _ | refine Gets.get 0 rfl ?_ | refine Gets.get 1 rfl ?_ | refine Gets.get 2 rfl ?_ | refine Gets.get 3 rfl ?_ | refine Gets.get 4 rfl ?_ | refine Gets.get 5 rfl ?_ | refine Gets.drop ?_)))⟩)
end
end Go.Proofs.Ytklhmlplabkoeaa
