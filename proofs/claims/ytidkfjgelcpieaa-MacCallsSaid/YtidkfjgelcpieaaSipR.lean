/- What package sip, and the document's, do, function by function: rounds and numbers of bytes. Conditions: none. -/
import Derived.Test.YtidkfjgelcpieaaSip
import Derived.Test.YtidkfjgelcpieaaSipL
set_option linter.unusedVariables false
set_option linter.unusedSimpArgs false
namespace Go.Proofs.Ytidkfjgelcpieaa
open Go.RowKit Go.Bst Go.MapKept Go.Proofs.YtidkfjgelcpieaaW.PrintLast
attribute [local irreducible] wpList Calls Code.wp Code.wpN Oper.wp Go.Proofs.YtidkfjgelcpieaaW.PrintLast.wpAnyLast

def q0 : Q4 := ⟨0#64, 0#64, 0#64, 0#64⟩
theorem q_zero : zeroOf Try.prog 26 = some (.agg q0.cs) := by
  have h : zeroOf Try.prog 26 = some (.agg #[.int .u64 0, .int .u64 0, .int .u64 0, .int .u64 0]) := by kernel_rfl
  rw [h]
  have e : Value.int .u64 0 = U 0#64 := U_lit 0 (by decide)
  rw [e]; rfl
theorem q_agg : aggSize Try.prog 26 = some 4 := by kernel_rfl
theorem q_size : (Try.prog.info? 26).map (·.size) = some 4 := by kernel_rfl
theorem u_bytes : Try.prog.underlying 24 = some (.slice 5) := by kernel_rfl
theorem byte_size : (Try.prog.info? 5).map (·.size) = some 1 := by kernel_rfl
theorem turn_13 (x : BitVec 64) (w : World) {E : Env} {F : List HP} (hw : Sat E w F) :
    Calls Try.prog 36 #[U x, .int .i64 13] w fun e w' => e = .returned (U (x.rotateLeft 13)) ∧ Sat E w' F := turn_at x w 13 (by omega) hw
theorem turn_16 (x : BitVec 64) (w : World) {E : Env} {F : List HP} (hw : Sat E w F) :
    Calls Try.prog 36 #[U x, .int .i64 16] w fun e w' => e = .returned (U (x.rotateLeft 16)) ∧ Sat E w' F := turn_at x w 16 (by omega) hw
theorem turn_17 (x : BitVec 64) (w : World) {E : Env} {F : List HP} (hw : Sat E w F) :
    Calls Try.prog 36 #[U x, .int .i64 17] w fun e w' => e = .returned (U (x.rotateLeft 17)) ∧ Sat E w' F := turn_at x w 17 (by omega) hw
theorem turn_21 (x : BitVec 64) (w : World) {E : Env} {F : List HP} (hw : Sat E w F) :
    Calls Try.prog 36 #[U x, .int .i64 21] w fun e w' => e = .returned (U (x.rotateLeft 21)) ∧ Sat E w' F := turn_at x w 21 (by omega) hw
theorem turn_32 (x : BitVec 64) (w : World) {E : Env} {F : List HP} (hw : Sat E w F) :
    Calls Try.prog 36 #[U x, .int .i64 32] w fun e w' => e = .returned (U (x.rotateLeft 32)) ∧ Sat E w' F := turn_at x w 32 (by omega) hw
section
variable {E : Env} {w : World} {F : List HP}
set_option maxRecDepth 100000 in
set_option maxHeartbeats 400000 in
theorem sip_round (hw : Sat E w F) (x : Q4) :
    Calls Try.prog 15 #[.agg x.cs] w fun e w' => e = .returned (.agg x.round.cs) ∧ Sat E w' F := by
  obtain ⟨v0, v1, v2, v3⟩ := x
  go_enter Try.func15, Try.ntmps15
  go_wp2_with (first
    | (refine wl_box hw _ (by simp only [Act.eval, Act.put, List.setIfInBounds_toArray, List.set_cons_succ, List.set_cons_zero, gd_s, gd_0, Value.cells]; exact rfl) ?_; clear hw; intro b w hw; (try simp only [List.set_cons_succ, List.set_cons_zero, List.setIfInBounds_toArray, Value.cells, List.eraseIdx_cons_succ, List.eraseIdx_cons_zero] at hw))
    | (refine wl_alloc hw q_zero ?_; clear hw; intro b2 w hw; (try simp only [List.set_cons_succ, List.set_cons_zero, List.setIfInBounds_toArray, Value.cells, List.eraseIdx_cons_succ, List.eraseIdx_cons_zero] at hw))
    | (go_at_call 34; first
      | (refine (half_01 (hw.front 1 rfl)).mono ?_; clear hw; rintro e w ⟨rfl, hw⟩)
      | (refine (half_23 hw).mono ?_; clear hw; rintro e w ⟨rfl, hw⟩)
      | (refine (half_03 hw).mono ?_; clear hw; rintro e w ⟨rfl, hw⟩)
      | (refine (half_21 hw).mono ?_; clear hw; rintro e w ⟨rfl, hw⟩))
    | (refine wl_load_all hw rfl 0 rfl q_agg ?_)
    | (refine wl_store_all (vs := (Q4.round ⟨v0, v1, v2, v3⟩).cs) hw rfl 1 rfl rfl (by rw [q_size]; rfl) rfl (Q4.one _) ?_; clear hw; intro w hw; (try simp only [List.set_cons_succ, List.set_cons_zero, List.setIfInBounds_toArray, Value.cells, List.eraseIdx_cons_succ, List.eraseIdx_cons_zero] at hw)))
  refine ret_cell rfl hw rfl 1 rfl q_agg rfl ?_
  exact ⟨rfl, hw.tail.tail⟩
set_option maxRecDepth 100000 in
set_option maxHeartbeats 1000000 in
theorem ref_round (hw : Sat E w F) (x : Q4) :
    Calls Try.prog 16 #[.agg x.cs] w fun e w' => e = .returned (.agg x.round.cs) ∧ Sat E w' F := by
  obtain ⟨v0, v1, v2, v3⟩ := x
  simp only [Q4.cs]
  go_enter Try.func16, Try.ntmps16
  go_wp2_with (first
    | (refine wl_box hw _ (by simp only [Act.eval, Act.put, List.setIfInBounds_toArray, List.set_cons_succ, List.set_cons_zero, gd_s, gd_0, Value.cells]; exact rfl) ?_; clear hw; intro b w hw; (try simp only [List.set_cons_succ, List.set_cons_zero, List.setIfInBounds_toArray, Value.cells, List.eraseIdx_cons_succ, List.eraseIdx_cons_zero] at hw))
    | (refine wl_alloc hw q_zero ?_; clear hw; intro b2 w hw; (try simp only [List.set_cons_succ, List.set_cons_zero, List.setIfInBounds_toArray, Value.cells, List.eraseIdx_cons_succ, List.eraseIdx_cons_zero] at hw)))
  have hS0 := hw.gets (Gets.get 1 rfl Gets.nil)
  refine startS (ds := []) hS0 #[false, false, false, false, false, false, false, false, false, false, false, false] (by kernel_rfl) rfl (by rfl) ?_
  clear hS0; intro hS
  replace hw := hw.drew; generalize w.drew = w at hw hS ⊢
  (refine takeE (i := 0) (oi := { dst := some 7, op := Op.indexAddr 26 (Operand.tmp 1) (Operand.const (Value.int IntKind.i64 0)), type := 0, pos := "ref.go:13", after := #[], guard := none }) (N := some 7) #[true, false, false, false, false, false, false, false, false, false, false, false] rfl rfl (by kernel_rfl) (fun _ _ _ _ h => h) hS ?_; apply Exists.intro; refine ⟨Or.inl ⟨by rfl, ?_⟩, ?_⟩; · (intro w0 h; first | (exact rn_rowIdx rfl h 0 rfl rfl _ _ (Nat.mul_one _) rfl (by kernel_rfl) (by kernel_rfl) (by omega)) | (exact rn_rowIdx rfl h 0 rfl rfl _ _ rfl rfl (by kernel_rfl) (by kernel_rfl) (by omega)) | (go_simp; with_reducible rfl)))
  try simp only [Act.put, List.setIfInBounds_toArray, List.set_cons_succ, List.set_cons_zero]
  (refine takeE (i := 1) (oi := { dst := some 8, op := Op.load 25 (Operand.tmp 7), type := 25, pos := "ref.go:13", after := #[{ on := 0, ground := Ground.data }], guard := none }) (N := some 8) #[true, true, false, false, false, false, false, false, false, false, false, false] rfl rfl (by kernel_rfl) (fun _ _ _ _ h => h) hS ?_; apply Exists.intro; refine ⟨Or.inl ⟨by rfl, ?_⟩, ?_⟩; · (intro w0 h; first | (exact rn_satLd1 rfl h 0 rfl rfl (by decide +kernel) (by simp only [List.getElem?_toArray, List.getElem?_cons_succ, List.getElem?_cons_zero]; exact rfl)) | (exact rn_satLdA rfl h 0 rfl rfl (by kernel_rfl)) | (exact rn_rowLd1 rfl h 0 rfl rfl (by decide +kernel) _ (by assumption)) | (go_simp; with_reducible rfl)))
  try simp only [Act.put, List.setIfInBounds_toArray, List.set_cons_succ, List.set_cons_zero]
  (refine pureE (i := 8) (oi := { dst := some 3, op := Op.assign (Operand.tmp 8), type := 25, pos := "ref.go:13", after := #[{ on := 1, ground := Ground.data }, { on := 0, ground := Ground.phase }, { on := 1, ground := Ground.phase }, { on := 2, ground := Ground.textOnly Departure.lateStores }, { on := 3, ground := Ground.textOnly Departure.lateStores }, { on := 4, ground := Ground.textOnly Departure.lateStores }, { on := 5, ground := Ground.textOnly Departure.lateStores }, { on := 6, ground := Ground.textOnly Departure.lateStores }, { on := 7, ground := Ground.textOnly Departure.lateStores }], guard := none }) (N := some 3) #[true, true, false, false, false, false, false, false, true, false, false, false] rfl rfl (by kernel_rfl) (fun _ _ _ _ h => h) ?_; apply Exists.intro; refine ⟨Or.inl ⟨by rfl, ?_⟩, ?_⟩; · (intro w0; go_simp; try with_reducible rfl))
  try simp only [Act.put, List.setIfInBounds_toArray, List.set_cons_succ, List.set_cons_zero]
  (refine takeE (i := 2) (oi := { dst := some 9, op := Op.indexAddr 26 (Operand.tmp 1) (Operand.const (Value.int IntKind.i64 1)), type := 0, pos := "ref.go:13", after := #[{ on := 8, ground := Ground.gcOnly Departure.lateStores }], guard := none }) (N := some 9) #[true, true, true, false, false, false, false, false, true, false, false, false] rfl rfl (by kernel_rfl) (fun _ _ _ _ h => h) hS ?_; apply Exists.intro; refine ⟨Or.inl ⟨by rfl, ?_⟩, ?_⟩; · (intro w0 h; first | (exact rn_rowIdx rfl h 0 rfl rfl _ _ (Nat.mul_one _) rfl (by kernel_rfl) (by kernel_rfl) (by omega)) | (exact rn_rowIdx rfl h 0 rfl rfl _ _ rfl rfl (by kernel_rfl) (by kernel_rfl) (by omega)) | (go_simp; with_reducible rfl)))
  try simp only [Act.put, List.setIfInBounds_toArray, List.set_cons_succ, List.set_cons_zero]
  (refine takeE (i := 3) (oi := { dst := some 10, op := Op.load 25 (Operand.tmp 9), type := 25, pos := "ref.go:13", after := #[{ on := 2, ground := Ground.data }, { on := 8, ground := Ground.gcOnly Departure.lateStores }], guard := none }) (N := some 10) #[true, true, true, true, false, false, false, false, true, false, false, false] rfl rfl (by kernel_rfl) (fun _ _ _ _ h => h) hS ?_; apply Exists.intro; refine ⟨Or.inl ⟨by rfl, ?_⟩, ?_⟩; · (intro w0 h; first | (exact rn_satLd1 rfl h 0 rfl rfl (by decide +kernel) (by simp only [List.getElem?_toArray, List.getElem?_cons_succ, List.getElem?_cons_zero]; exact rfl)) | (exact rn_satLdA rfl h 0 rfl rfl (by kernel_rfl)) | (exact rn_rowLd1 rfl h 0 rfl rfl (by decide +kernel) _ (by assumption)) | (go_simp; with_reducible rfl)))
  try simp only [Act.put, List.setIfInBounds_toArray, List.set_cons_succ, List.set_cons_zero]
  (refine pureE (i := 9) (oi := { dst := some 4, op := Op.assign (Operand.tmp 10), type := 25, pos := "ref.go:13", after := #[{ on := 3, ground := Ground.data }, { on := 8, ground := Ground.chain }, { on := 0, ground := Ground.phase }, { on := 1, ground := Ground.phase }, { on := 2, ground := Ground.phase }, { on := 3, ground := Ground.phase }, { on := 4, ground := Ground.textOnly Departure.lateStores }, { on := 5, ground := Ground.textOnly Departure.lateStores }, { on := 6, ground := Ground.textOnly Departure.lateStores }, { on := 7, ground := Ground.textOnly Departure.lateStores }, { on := 8, ground := Ground.phase }], guard := none }) (N := some 4) #[true, true, true, true, false, false, false, false, true, true, false, false] rfl rfl (by kernel_rfl) (fun _ _ _ _ h => h) ?_; apply Exists.intro; refine ⟨Or.inl ⟨by rfl, ?_⟩, ?_⟩; · (intro w0; go_simp; try with_reducible rfl))
  try simp only [Act.put, List.setIfInBounds_toArray, List.set_cons_succ, List.set_cons_zero]
  (refine takeE (i := 4) (oi := { dst := some 11, op := Op.indexAddr 26 (Operand.tmp 1) (Operand.const (Value.int IntKind.i64 2)), type := 0, pos := "ref.go:13", after := #[{ on := 9, ground := Ground.gcOnly Departure.lateStores }], guard := none }) (N := some 11) #[true, true, true, true, true, false, false, false, true, true, false, false] rfl rfl (by kernel_rfl) (fun _ _ _ _ h => h) hS ?_; apply Exists.intro; refine ⟨Or.inl ⟨by rfl, ?_⟩, ?_⟩; · (intro w0 h; first | (exact rn_rowIdx rfl h 0 rfl rfl _ _ (Nat.mul_one _) rfl (by kernel_rfl) (by kernel_rfl) (by omega)) | (exact rn_rowIdx rfl h 0 rfl rfl _ _ rfl rfl (by kernel_rfl) (by kernel_rfl) (by omega)) | (go_simp; with_reducible rfl)))
  try simp only [Act.put, List.setIfInBounds_toArray, List.set_cons_succ, List.set_cons_zero]
  (refine takeE (i := 5) (oi := { dst := some 12, op := Op.load 25 (Operand.tmp 11), type := 25, pos := "ref.go:13", after := #[{ on := 4, ground := Ground.data }, { on := 9, ground := Ground.gcOnly Departure.lateStores }], guard := none }) (N := some 12) #[true, true, true, true, true, true, false, false, true, true, false, false] rfl rfl (by kernel_rfl) (fun _ _ _ _ h => h) hS ?_; apply Exists.intro; refine ⟨Or.inl ⟨by rfl, ?_⟩, ?_⟩; · (intro w0 h; first | (exact rn_satLd1 rfl h 0 rfl rfl (by decide +kernel) (by simp only [List.getElem?_toArray, List.getElem?_cons_succ, List.getElem?_cons_zero]; exact rfl)) | (exact rn_satLdA rfl h 0 rfl rfl (by kernel_rfl)) | (exact rn_rowLd1 rfl h 0 rfl rfl (by decide +kernel) _ (by assumption)) | (go_simp; with_reducible rfl)))
  try simp only [Act.put, List.setIfInBounds_toArray, List.set_cons_succ, List.set_cons_zero]
  (refine pureE (i := 10) (oi := { dst := some 5, op := Op.assign (Operand.tmp 12), type := 25, pos := "ref.go:13", after := #[{ on := 5, ground := Ground.data }, { on := 9, ground := Ground.chain }, { on := 0, ground := Ground.phase }, { on := 1, ground := Ground.phase }, { on := 2, ground := Ground.phase }, { on := 3, ground := Ground.phase }, { on := 4, ground := Ground.phase }, { on := 5, ground := Ground.phase }, { on := 6, ground := Ground.textOnly Departure.lateStores }, { on := 7, ground := Ground.textOnly Departure.lateStores }, { on := 8, ground := Ground.phase }, { on := 9, ground := Ground.phase }], guard := none }) (N := some 5) #[true, true, true, true, true, true, false, false, true, true, true, false] rfl rfl (by kernel_rfl) (fun _ _ _ _ h => h) ?_; apply Exists.intro; refine ⟨Or.inl ⟨by rfl, ?_⟩, ?_⟩; · (intro w0; go_simp; try with_reducible rfl))
  try simp only [Act.put, List.setIfInBounds_toArray, List.set_cons_succ, List.set_cons_zero]
  (refine takeE (i := 6) (oi := { dst := some 13, op := Op.indexAddr 26 (Operand.tmp 1) (Operand.const (Value.int IntKind.i64 3)), type := 0, pos := "ref.go:13", after := #[{ on := 10, ground := Ground.gcOnly Departure.lateStores }], guard := none }) (N := some 13) #[true, true, true, true, true, true, true, false, true, true, true, false] rfl rfl (by kernel_rfl) (fun _ _ _ _ h => h) hS ?_; apply Exists.intro; refine ⟨Or.inl ⟨by rfl, ?_⟩, ?_⟩; · (intro w0 h; first | (exact rn_rowIdx rfl h 0 rfl rfl _ _ (Nat.mul_one _) rfl (by kernel_rfl) (by kernel_rfl) (by omega)) | (exact rn_rowIdx rfl h 0 rfl rfl _ _ rfl rfl (by kernel_rfl) (by kernel_rfl) (by omega)) | (go_simp; with_reducible rfl)))
  try simp only [Act.put, List.setIfInBounds_toArray, List.set_cons_succ, List.set_cons_zero]
  (refine takeE (i := 7) (oi := { dst := some 14, op := Op.load 25 (Operand.tmp 13), type := 25, pos := "ref.go:13", after := #[{ on := 6, ground := Ground.data }, { on := 10, ground := Ground.gcOnly Departure.lateStores }], guard := none }) (N := some 14) #[true, true, true, true, true, true, true, true, true, true, true, false] rfl rfl (by kernel_rfl) (fun _ _ _ _ h => h) hS ?_; apply Exists.intro; refine ⟨Or.inl ⟨by rfl, ?_⟩, ?_⟩; · (intro w0 h; first | (exact rn_satLd1 rfl h 0 rfl rfl (by decide +kernel) (by simp only [List.getElem?_toArray, List.getElem?_cons_succ, List.getElem?_cons_zero]; exact rfl)) | (exact rn_satLdA rfl h 0 rfl rfl (by kernel_rfl)) | (exact rn_rowLd1 rfl h 0 rfl rfl (by decide +kernel) _ (by assumption)) | (go_simp; with_reducible rfl)))
  try simp only [Act.put, List.setIfInBounds_toArray, List.set_cons_succ, List.set_cons_zero]
  (refine pureE (i := 11) (oi := { dst := some 6, op := Op.assign (Operand.tmp 14), type := 25, pos := "ref.go:13", after := #[{ on := 7, ground := Ground.data }, { on := 10, ground := Ground.chain }, { on := 0, ground := Ground.phase }, { on := 1, ground := Ground.phase }, { on := 2, ground := Ground.phase }, { on := 3, ground := Ground.phase }, { on := 4, ground := Ground.phase }, { on := 5, ground := Ground.phase }, { on := 6, ground := Ground.phase }, { on := 7, ground := Ground.phase }, { on := 8, ground := Ground.phase }, { on := 9, ground := Ground.phase }, { on := 10, ground := Ground.phase }], guard := none }) (N := some 6) #[true, true, true, true, true, true, true, true, true, true, true, true] rfl rfl (by kernel_rfl) (fun _ _ _ _ h => h) ?_; apply Exists.intro; refine ⟨Or.inl ⟨by rfl, ?_⟩, ?_⟩; · (intro w0; go_simp; try with_reducible rfl))
  try simp only [Act.put, List.setIfInBounds_toArray, List.set_cons_succ, List.set_cons_zero]
  refine done_ (by kernel_rfl) ?_; clear hS
  go_wp2_with (first
    | (refine wl_uadd (by first | exact rfl | (simp only [Act.eval, Act.put, List.setIfInBounds_toArray, List.set_cons_succ, List.set_cons_zero, gd_s, gd_0]; exact U_lit _ (by decide))) (by first | exact rfl | (simp only [Act.eval, Act.put, List.setIfInBounds_toArray, List.set_cons_succ, List.set_cons_zero, gd_s, gd_0]; exact U_lit _ (by decide))) ?_)
    | (refine wl_uxor (by first | exact rfl | (simp only [Act.eval, Act.put, List.setIfInBounds_toArray, List.set_cons_succ, List.set_cons_zero, gd_s, gd_0]; exact U_lit _ (by decide))) (by first | exact rfl | (simp only [Act.eval, Act.put, List.setIfInBounds_toArray, List.set_cons_succ, List.set_cons_zero, gd_s, gd_0]; exact U_lit _ (by decide))) ?_)
    | (go_at_call 36; (first | (with_reducible refine (turn_13 _ _ hw).mono ?_) | (with_reducible refine (turn_16 _ _ hw).mono ?_) | (with_reducible refine (turn_17 _ _ hw).mono ?_) | (with_reducible refine (turn_21 _ _ hw).mono ?_) | (with_reducible refine (turn_32 _ _ hw).mono ?_)); clear hw; rintro e w ⟨rfl, hw⟩)
    | (refine wl_build (t := 26) (Q4.round ⟨v0, v1, v2, v3⟩).cs (by simp only [List.map_cons, List.map_nil, Act.eval, Act.put, List.setIfInBounds_toArray, List.set_cons_succ, List.set_cons_zero, gd_s, gd_0, U_cells, Y_cells, Value.cells]; exact rfl) (by kernel_rfl) ?_)
    | (refine wl_store_all (vs := (Q4.round ⟨v0, v1, v2, v3⟩).cs) hw rfl 0 rfl rfl (by rw [q_size]; rfl) rfl (Q4.one _) ?_; clear hw; intro w hw; (try simp only [List.set_cons_succ, List.set_cons_zero, List.setIfInBounds_toArray, Value.cells, List.eraseIdx_cons_succ, List.eraseIdx_cons_zero] at hw)))
  refine ret_cell rfl hw rfl 0 rfl q_agg rfl ?_
  exact ⟨rfl, hw.tail.tail⟩
set_option maxRecDepth 100000 in
set_option maxHeartbeats 400000 in
theorem sip_mixed (hw : Sat E w F) (x : Q4) (m : BitVec 64) :
    Calls Try.prog 38 #[.agg x.cs, U m] w fun e w' => e = .returned (.agg (x.mix m).cs) ∧ Sat E w' F := by
  obtain ⟨v0, v1, v2, v3⟩ := x
  simp only [Q4.cs]
  go_enter Try.func38, Try.ntmps38
  go_wp2_with (first
    | (refine wl_box hw _ (by simp only [Act.eval, Act.put, List.setIfInBounds_toArray, List.set_cons_succ, List.set_cons_zero, gd_s, gd_0, Value.cells]; exact rfl) ?_; clear hw; intro b w hw; (try simp only [List.set_cons_succ, List.set_cons_zero, List.setIfInBounds_toArray, Value.cells, List.eraseIdx_cons_succ, List.eraseIdx_cons_zero] at hw))
    | (refine wl_alloc hw q_zero ?_; clear hw; intro b2 w hw; (try simp only [List.set_cons_succ, List.set_cons_zero, List.setIfInBounds_toArray, Value.cells, List.eraseIdx_cons_succ, List.eraseIdx_cons_zero] at hw))
    | (refine wl_load1 hw rfl 1 rfl (by decide +kernel) (by simp only [List.getElem?_toArray, List.getElem?_cons_succ, List.getElem?_cons_zero]; exact rfl) ?_)
    | (refine wl_uxor (by first | exact rfl | (simp only [Act.eval, Act.put, List.setIfInBounds_toArray, List.set_cons_succ, List.set_cons_zero, gd_s, gd_0]; exact U_lit _ (by decide))) (by first | exact rfl | (simp only [Act.eval, Act.put, List.setIfInBounds_toArray, List.set_cons_succ, List.set_cons_zero, gd_s, gd_0]; exact U_lit _ (by decide))) ?_)
    | (refine wl_store1 hw rfl 1 rfl _ (by simp only [Act.eval, Act.put, List.setIfInBounds_toArray, List.set_cons_succ, List.set_cons_zero, gd_s, gd_0, Value.cells]; exact rfl) (by kernel_rfl) (by simp) (U_one _) ?_; clear hw; intro w hw; (try simp only [List.set_cons_succ, List.set_cons_zero, List.setIfInBounds_toArray, Value.cells, List.eraseIdx_cons_succ, List.eraseIdx_cons_zero] at hw))
    | (refine wl_load_all hw rfl 1 rfl q_agg ?_)
    | (go_at_call 15; first
       | (refine (sip_round hw ⟨v0, v1, v2, v3 ^^^ m⟩).mono ?_; clear hw; rintro e w ⟨rfl, hw⟩)
       | (refine (sip_round hw (Q4.round ⟨v0, v1, v2, v3 ^^^ m⟩)).mono ?_; clear hw; rintro e w ⟨rfl, hw⟩))
    | (refine wl_store_all (vs := (Q4.round (Q4.round ⟨v0, v1, v2, v3 ^^^ m⟩)).cs) hw rfl 1 rfl rfl (by rw [q_size]; rfl) rfl (Q4.one _) ?_; clear hw; intro w hw; simp only [Q4.cs] at hw; (try simp only [List.set_cons_succ, List.set_cons_zero, List.setIfInBounds_toArray, Value.cells, List.eraseIdx_cons_succ, List.eraseIdx_cons_zero] at hw))
    | (refine wl_store_all (vs := (Q4.mix ⟨v0, v1, v2, v3⟩ m).cs) hw rfl 0 rfl rfl (by rw [q_size]; rfl) rfl (Q4.one _) ?_; clear hw; intro w hw; (try simp only [List.set_cons_succ, List.set_cons_zero, List.setIfInBounds_toArray, Value.cells, List.eraseIdx_cons_succ, List.eraseIdx_cons_zero] at hw)))
  refine ret_cell rfl hw rfl 0 rfl q_agg rfl ?_
  exact ⟨rfl, hw.tail.tail⟩
end
end Go.Proofs.Ytidkfjgelcpieaa
