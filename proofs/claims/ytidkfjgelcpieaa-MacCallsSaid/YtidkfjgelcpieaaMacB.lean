/- The book of package mac in memory; New, Has, and a copy of bytes. Conditions: none. -/
import Derived.Test.YtidkfjgelcpieaaMacL
import Derived.Test.YtidkfjgelcpieaaSipW
import Derived.Deep.Cut
set_option linter.unusedVariables false
set_option linter.unusedSimpArgs false
namespace Go.Proofs.Ytidkfjgelcpieaa
open Go.RowKit Go.Bst Go.MapKept Go.Proofs.YtidkfjgelcpieaaW.PrintLast
attribute [local irreducible] wpList Calls Code.wp Code.wpN Oper.wp Go.Proofs.YtidkfjgelcpieaaW.PrintLast.wpAnyLast

def mcell (p : Value × Mk) : Array Value := #[p.1, U p.2.tag]
def bcell (p : (Value × Value) × Bd) : Array Value := #[.int .i64 p.2.kind, p.1.1, p.1.2, U p.2.tag]
structure BookOk (s : Bk) (ml : List (Value × Mk)) (bl : List ((Value × Value) × Bd)) (h : PH) : Prop where
  mm : ml.map (·.2) = s.ms
  bb : bl.map (·.2) = s.bs
  mr : ∀ p ∈ ml, RdP h 1 p.1 p.2.msg.length (ybs p.2.msg)
  br : ∀ p ∈ bl, RdP h 1 p.1.1 p.2.msg.length (ybs p.2.msg) ∧ RdP h 1 p.1.2 p.2.other.length (ybs p.2.other)
  kk : ∀ k, s.key = some k → k.length = 16
def tgV (key : Option (List UInt8)) : Value := match key with
  | none => .iface 81 (.agg #[])
  | some k => .iface 83 (.agg (ybs k).toArray)
def Bcs (kv v1 v2 : Value) (i f : Nat) : Array Value := #[kv, v1, .map (some i), .map (some f), v2]
def Book (b : Nat) (s : Bk) : HP := exH fun ml : List (Value × Mk) => exH fun bl : List ((Value × Value) × Bd) => exH fun h : PH => exH fun v1 => exH fun v2 => exH fun i => exH fun f => andH (BookOk s ml bl h) <|
  star [pt b (.cells (Bcs (tgV s.key) v1 v2 i f) 79 (0, 0)), Row 54 2 v1 ml.length (flat (ml.map mcell)), Row 60 4 v2 bl.length (flat (bl.map bcell)), Mf i (IsKey .string) (fIndex s.ms), Mf f (IsKey (.int .u64)) (fFirst s.ms), Arc h]
section
variable {E : Env} {w : World} {F : List HP} {b : Nat} {s : Bk}
theorem Book_open (hw : Sat E w (Book b s :: F)) : ∃ ml bl h v1 v2 i f, BookOk s ml bl h ∧ Sat E w (pt b (.cells (Bcs (tgV s.key) v1 v2 i f) 79 (0, 0)) :: Row 54 2 v1 ml.length (flat (ml.map mcell)) :: Row 60 4 v2 bl.length (flat (bl.map bcell)) :: Mf i (IsKey .string) (fIndex s.ms) :: Mf f (IsKey (.int .u64)) (fFirst s.ms) :: Arc h :: F) := by
  obtain ⟨ml, h2⟩ := hw.ex
  obtain ⟨bl, h2⟩ := h2.ex
  obtain ⟨h, h2⟩ := h2.ex
  obtain ⟨v1, h2⟩ := h2.ex
  obtain ⟨v2, h2⟩ := h2.ex
  obtain ⟨i, h2⟩ := h2.ex
  obtain ⟨f, h2⟩ := h2.ex
  obtain ⟨ok, h2⟩ := h2.and
  exact ⟨ml, bl, h, v1, v2, i, f, ok, h2.flat⟩
theorem Book_shut {ml : List (Value × Mk)} {bl : List ((Value × Value) × Bd)} {h : PH} {v1 v2 : Value} {i f : Nat} (ok : BookOk s ml bl h)
    (hw : Sat E w (pt b (.cells (Bcs (tgV s.key) v1 v2 i f) 79 (0, 0)) :: Row 54 2 v1 ml.length (flat (ml.map mcell)) :: Row 60 4 v2 bl.length (flat (bl.map bcell)) :: Mf i (IsKey .string) (fIndex s.ms) :: Mf f (IsKey (.int .u64)) (fFirst s.ms) :: Arc h :: F)) : Sat E w (Book b s :: F) :=
  Sat.ex_mk ml (Sat.ex_mk bl (Sat.ex_mk h (Sat.ex_mk v1 (Sat.ex_mk v2 (Sat.ex_mk i (Sat.ex_mk f (Sat.and_mk ok (Sat.fold (K := [_, _, _, _, _, _]) hw))))))))

theorem KS : KeyKind Try.prog 9 (IsKey .string) := KeyKind.plain (by kernel_rfl)
theorem KU : KeyKind Try.prog 25 (IsKey (.int .u64)) := KeyKind.plain (by kernel_rfl)
theorem u_msi : Try.prog.underlying 74 = some (.map 9 3) := by kernel_rfl
theorem u_mui : Try.prog.underlying 75 = some (.map 25 3) := by kernel_rfl
theorem u_str : Try.prog.underlying 9 = some .string := by kernel_rfl
theorem z_int : zeroOf Try.prog 3 = some (.int .i64 0) := by kernel_rfl
set_option maxRecDepth 100000 in
set_option maxHeartbeats 400000 in
theorem clone_bytes {v : Value} {l : List UInt8} (hw : Sat E w F) (hR : ∀ w', Sat E w' F → Rd w' 1 v l.length (ybs l)) (hn : l.length ≤ 1000000) :
    Calls Try.prog 39 #[v] w fun e w' => ∃ v', e = .returned v' ∧ Sat E w' (Row 5 1 v' l.length (ybs l) :: F) := by
  have hr := hR w hw
  obtain ⟨A, cap, rfl, hc⟩ := hr.form
  have HR := Kp.mk hR
  clear hR
  cases A with
  | none =>
    have hl : l = [] := by
      obtain ⟨A', cap', e, _, _, h4⟩ := hr
      cases l with
      | nil => rfl
      | cons c l => obtain ⟨_, e2, _⟩ := h4 (by simp); injection e with e; rw [← e] at e2; cases e2
    subst hl
    go_enter Try.func39, Try.ntmps39
    go_wp2_with (refine wl_eqNil rfl rfl u_bytes _ rfl ?_)
    go_ret
    exact ⟨_, rfl, Row_nil hw⟩
  | some ad =>
    obtain ⟨n, hn'⟩ : ∃ n, n = l.length := ⟨_, rfl⟩
    rw [← hn'] at HR hn hc ⊢
    clear hn' hr
    go_enter Try.func39, Try.ntmps39
    go_wp2_with (first
      | (refine wl_eqNil rfl rfl u_bytes _ rfl ?_)
      | (refine wl_lit0 (el := 5) (sz := 1) hw (by kernel_rfl) (by kernel_rfl) ?_; clear hw; intro b0 w hw)
      | (at_builtin; go_must (refine wl_append hw 0 rfl rfl rfl (HR.out _ hw.tail) u_bytes byte_info rfl (by omega) ybs_one (by simp only [maxLen]; omega) (by omega) ?_); clear hw; intro v w hw hv; clear hv; (try simp only [List.set_cons_succ, List.set_cons_zero, List.setIfInBounds_toArray, Value.cells, List.eraseIdx_cons_succ, List.eraseIdx_cons_zero] at hw)))
    go_ret
    rw [Nat.zero_add, List.nil_append] at hw
    exact ⟨_, rfl, hw⟩
set_option maxRecDepth 100000 in
set_option maxHeartbeats 400000 in
theorem mac_has {v : Value} {m : List UInt8} (hw : Sat E w (Book b s :: F)) (hR : ∀ w', Sat E w' F → Rd w' 1 v m.length (ybs m)) :
    Calls Try.prog 26 #[.pointer (some ⟨b, 0, none⟩), v] w fun e w' => e = .returned (.bool (idx s.ms m).isSome) ∧ Sat E w' (Book b s :: F) := by
  obtain ⟨ml, bl, h, v1, v2, i, f, ok, hw⟩ := Book_open hw
  simp only [Bcs] at hw
  have HR := Kp.mk hR
  clear hR
  obtain ⟨r, hr1⟩ : ∃ r, r = (idx s.ms m).isSome := ⟨_, rfl⟩
  rw [← hr1]
  have h2 := Kp.mk (show (fIndex s.ms (.string (strOf m))).isSome = r by rw [fIndex_str, hr1, Option.isSome_map])
  clear hr1
  go_enter Try.func26, Try.ntmps26
  go_wp2
  have hS0 := hw
  refine startS (ds := []) hS0 #[false, false, false, false, false, false, false, false, false, false, false, false] (by kernel_rfl) rfl (by rfl) ?_
  clear hS0; intro hS
  replace hw := hw.drew; generalize w.drew = w at hw hS ⊢
  (refine pureE (i := 0) (oi := { dst := some 8, op := Op.move (Operand.tmp 0), type := 40, pos := "mac.go:87", after := #[], guard := none }) (N := some 8) #[true, false, false, false, false, false, false, false, false, false, false, false] rfl rfl (by kernel_rfl) (fun _ _ _ _ h => h) ?_; apply Exists.intro; refine ⟨Or.inl ⟨by rfl, ?_⟩, ?_⟩; · (intro w0; go_simp; try with_reducible rfl))
  try simp only [Act.put, List.setIfInBounds_toArray, List.set_cons_succ, List.set_cons_zero]
  (refine pureE (i := 1) (oi := { dst := some 9, op := Op.nilCheck (Operand.tmp 8), type := 0, pos := "mac.go:87", after := #[{ on := 0, ground := Ground.data }], guard := none }) (N := some 9) #[true, true, false, false, false, false, false, false, false, false, false, false] rfl rfl (by kernel_rfl) (fun _ _ _ _ h => h) ?_; apply Exists.intro; refine ⟨Or.inl ⟨by rfl, ?_⟩, ?_⟩; · (intro w0; go_simp; try with_reducible rfl))
  try simp only [Act.put, List.setIfInBounds_toArray, List.set_cons_succ, List.set_cons_zero]
  (refine pureE (i := 2) (oi := { dst := some 10, op := Op.fieldAddr 79 (Operand.tmp 9) 2, type := 0, pos := "mac.go:87", after := #[{ on := 1, ground := Ground.data }], guard := none }) (N := some 10) #[true, true, true, false, false, false, false, false, false, false, false, false] rfl rfl (by kernel_rfl) (fun _ _ _ _ h => h) ?_; apply Exists.intro; refine ⟨Or.inl ⟨by rfl, ?_⟩, ?_⟩; · (intro w0; go_simp; try with_reducible rfl))
  try simp only [Act.put, List.setIfInBounds_toArray, List.set_cons_succ, List.set_cons_zero]
  (refine pureE (i := 4) (oi := { dst := some 12, op := Op.move (Operand.tmp 1), type := 24, pos := "mac.go:87", after := #[], guard := none }) (N := some 12) #[true, true, true, false, true, false, false, false, false, false, false, false] rfl rfl (by kernel_rfl) (fun _ _ _ _ h => h) ?_; apply Exists.intro; refine ⟨Or.inl ⟨by rfl, ?_⟩, ?_⟩; · (intro w0; go_simp; try with_reducible rfl))
  try simp only [Act.put, List.setIfInBounds_toArray, List.set_cons_succ, List.set_cons_zero]
  (refine takeE (i := 3) (oi := { dst := some 11, op := Op.load 74 (Operand.tmp 10), type := 74, pos := "mac.go:87", after := #[{ on := 2, ground := Ground.data }], guard := none }) (N := some 11) #[true, true, true, true, true, false, false, false, false, false, false, false] rfl rfl (by kernel_rfl) (fun _ _ _ _ h => h) hS ?_; apply Exists.intro; refine ⟨Or.inl ⟨by rfl, ?_⟩, ?_⟩; · (intro w0 h; first | (exact rn_tostr rfl rfl (HR.out _ h.tail.tail.tail.tail.tail.tail) u_bytes u_u8 u_str) | (exact rn_lookup2 (key := .string (strOf m)) rfl h 3 rfl rfl KS u_msi z_int rfl (key_str m) _ _ rfl h2.out) | (exact rn_satLd1 rfl h 0 rfl rfl (by decide +kernel) (by simp only [List.getElem?_toArray, List.getElem?_cons_succ, List.getElem?_cons_zero]; exact rfl)) | (exact rn_satLd1 rfl h 1 rfl rfl (by decide +kernel) (by simp only [List.getElem?_toArray, List.getElem?_cons_succ, List.getElem?_cons_zero]; exact rfl)) | (exact rn_satLd1 rfl h 2 rfl rfl (by decide +kernel) (by simp only [List.getElem?_toArray, List.getElem?_cons_succ, List.getElem?_cons_zero]; exact rfl)) | (exact rn_satLd1 rfl h 3 rfl rfl (by decide +kernel) (by simp only [List.getElem?_toArray, List.getElem?_cons_succ, List.getElem?_cons_zero]; exact rfl)) | (exact rn_satLd1 rfl h 4 rfl rfl (by decide +kernel) (by simp only [List.getElem?_toArray, List.getElem?_cons_succ, List.getElem?_cons_zero]; exact rfl)) | (exact rn_satLd1 rfl h 5 rfl rfl (by decide +kernel) (by simp only [List.getElem?_toArray, List.getElem?_cons_succ, List.getElem?_cons_zero]; exact rfl)) | (exact rn_satLd1 rfl h 6 rfl rfl (by decide +kernel) (by simp only [List.getElem?_toArray, List.getElem?_cons_succ, List.getElem?_cons_zero]; exact rfl)) | (exact rn_satLd1 rfl h 7 rfl rfl (by decide +kernel) (by simp only [List.getElem?_toArray, List.getElem?_cons_succ, List.getElem?_cons_zero]; exact rfl)) | (exact rn_satLdA rfl h 0 rfl rfl (by kernel_rfl)) | (exact rn_satLdA rfl h 1 rfl rfl (by kernel_rfl)) | (exact rn_satLdA rfl h 2 rfl rfl (by kernel_rfl)) | (exact rn_satLdA rfl h 3 rfl rfl (by kernel_rfl)) | (exact rn_satLdA rfl h 4 rfl rfl (by kernel_rfl)) | (exact rn_satLdA rfl h 5 rfl rfl (by kernel_rfl)) | (exact rn_satLdA rfl h 6 rfl rfl (by kernel_rfl)) | (exact rn_satLdA rfl h 7 rfl rfl (by kernel_rfl)) | (exact rn_rowLd1 rfl h 0 rfl rfl (by decide +kernel) _ (by assumption)) | (exact rn_rowLd1 rfl h 1 rfl rfl (by decide +kernel) _ (by assumption)) | (exact rn_rowLd1 rfl h 2 rfl rfl (by decide +kernel) _ (by assumption)) | (exact rn_rowLd1 rfl h 3 rfl rfl (by decide +kernel) _ (by assumption)) | (exact rn_rowLd1 rfl h 4 rfl rfl (by decide +kernel) _ (by assumption)) | (exact rn_rowLd1 rfl h 5 rfl rfl (by decide +kernel) _ (by assumption)) | (exact rn_rowLd1 rfl h 6 rfl rfl (by decide +kernel) _ (by assumption)) | (exact rn_rowLd1 rfl h 7 rfl rfl (by decide +kernel) _ (by assumption)) | (go_simp; with_reducible rfl)))
  try simp only [Act.put, List.setIfInBounds_toArray, List.set_cons_succ, List.set_cons_zero]
  (refine takeE (i := 5) (oi := { dst := some 13, op := Op.convert 24 9 (Operand.tmp 12), type := 9, pos := "mac.go:87", after := #[{ on := 4, ground := Ground.data }], guard := none }) (N := some 13) #[true, true, true, true, true, true, false, false, false, false, false, false] rfl rfl (by kernel_rfl) (fun _ _ _ _ h => h) hS ?_; apply Exists.intro; refine ⟨Or.inl ⟨by rfl, ?_⟩, ?_⟩; · (intro w0 h; first | (exact rn_tostr rfl rfl (HR.out _ h.tail.tail.tail.tail.tail.tail) u_bytes u_u8 u_str) | (exact rn_lookup2 (key := .string (strOf m)) rfl h 3 rfl rfl KS u_msi z_int rfl (key_str m) _ _ rfl h2.out) | (go_simp; with_reducible rfl)))
  try simp only [Act.put, List.setIfInBounds_toArray, List.set_cons_succ, List.set_cons_zero]
  (refine takeE (i := 6) (oi := { dst := some 14, op := Op.lookup 74 (Operand.tmp 11) (Operand.tmp 13) true, type := 86, pos := "mac.go:87", after := #[{ on := 3, ground := Ground.data }, { on := 5, ground := Ground.data }], guard := none }) (N := some 14) #[true, true, true, true, true, true, true, false, false, false, false, false] rfl rfl (by kernel_rfl) (fun _ _ _ _ h => h) hS ?_; apply Exists.intro; refine ⟨Or.inl ⟨by rfl, ?_⟩, ?_⟩; · (intro w0 h; first | (exact rn_tostr rfl rfl (HR.out _ h.tail.tail.tail.tail.tail.tail) u_bytes u_u8 u_str) | (exact rn_lookup2 (key := .string (strOf m)) rfl h 3 rfl rfl KS u_msi z_int rfl (key_str m) _ _ rfl h2.out) | (go_simp; with_reducible rfl)))
  try simp only [Act.put, List.setIfInBounds_toArray, List.set_cons_succ, List.set_cons_zero]
  (refine pureE (i := 7) (oi := { dst := some 7, op := Op.move (Operand.tmp 14), type := 86, pos := "mac.go:87", after := #[{ on := 6, ground := Ground.data }], guard := none }) (N := some 7) #[true, true, true, true, true, true, true, true, false, false, false, false] rfl rfl (by kernel_rfl) (fun _ _ _ _ h => h) ?_; apply Exists.intro; refine ⟨Or.inl ⟨by rfl, ?_⟩, ?_⟩; · (intro w0; go_simp; try with_reducible rfl))
  try simp only [Act.put, List.setIfInBounds_toArray, List.set_cons_succ, List.set_cons_zero]
  (refine pureE (i := 8) (oi := { dst := some 15, op := Op.extract (Operand.tmp 7) 0, type := 3, pos := "mac.go:87", after := #[{ on := 7, ground := Ground.data }], guard := none }) (N := some 15) #[true, true, true, true, true, true, true, true, true, false, false, false] rfl rfl (by kernel_rfl) (fun _ _ _ _ h => h) ?_; apply Exists.intro; refine ⟨Or.inl ⟨by rfl, ?_⟩, ?_⟩; · (intro w0; go_simp; try with_reducible rfl))
  try simp only [Act.put, List.setIfInBounds_toArray, List.set_cons_succ, List.set_cons_zero]
  (refine pureE (i := 9) (oi := { dst := some 16, op := Op.extract (Operand.tmp 7) 1, type := 4, pos := "mac.go:87", after := #[{ on := 7, ground := Ground.data }, { on := 10, ground := Ground.gcOnly Departure.lateStores }], guard := none }) (N := some 16) #[true, true, true, true, true, true, true, true, true, true, false, false] rfl rfl (by kernel_rfl) (fun _ _ _ _ h => h) ?_; apply Exists.intro; refine ⟨Or.inl ⟨by rfl, ?_⟩, ?_⟩; · (intro w0; go_simp; try with_reducible rfl))
  try simp only [Act.put, List.setIfInBounds_toArray, List.set_cons_succ, List.set_cons_zero]
  (refine pureE (i := 10) (oi := { dst := some 5, op := Op.assign (Operand.tmp 15), type := 3, pos := "mac.go:87", after := #[{ on := 8, ground := Ground.data }, { on := 0, ground := Ground.phase }, { on := 1, ground := Ground.phase }, { on := 2, ground := Ground.phase }, { on := 3, ground := Ground.phase }, { on := 4, ground := Ground.phase }, { on := 5, ground := Ground.phase }, { on := 6, ground := Ground.phase }, { on := 7, ground := Ground.phase }, { on := 8, ground := Ground.phase }, { on := 9, ground := Ground.textOnly Departure.lateStores }], guard := none }) (N := some 5) #[true, true, true, true, true, true, true, true, true, true, true, false] rfl rfl (by kernel_rfl) (fun _ _ _ _ h => h) ?_; apply Exists.intro; refine ⟨Or.inl ⟨by rfl, ?_⟩, ?_⟩; · (intro w0; go_simp; try with_reducible rfl))
  try simp only [Act.put, List.setIfInBounds_toArray, List.set_cons_succ, List.set_cons_zero]
  (refine pureE (i := 11) (oi := { dst := some 6, op := Op.assign (Operand.tmp 16), type := 4, pos := "mac.go:87", after := #[{ on := 9, ground := Ground.data }, { on := 10, ground := Ground.chain }, { on := 0, ground := Ground.phase }, { on := 1, ground := Ground.phase }, { on := 2, ground := Ground.phase }, { on := 3, ground := Ground.phase }, { on := 4, ground := Ground.phase }, { on := 5, ground := Ground.phase }, { on := 6, ground := Ground.phase }, { on := 7, ground := Ground.phase }, { on := 8, ground := Ground.phase }, { on := 9, ground := Ground.phase }, { on := 10, ground := Ground.phase }], guard := none }) (N := some 6) #[true, true, true, true, true, true, true, true, true, true, true, true] rfl rfl (by kernel_rfl) (fun _ _ _ _ h => h) ?_; apply Exists.intro; refine ⟨Or.inl ⟨by rfl, ?_⟩, ?_⟩; · (intro w0; go_simp; try with_reducible rfl))
  try simp only [Act.put, List.setIfInBounds_toArray, List.set_cons_succ, List.set_cons_zero]
  refine done_ (by kernel_rfl) ?_; clear hS
  go_wp2
  go_ret
  exact ⟨rfl, Book_shut ok hw⟩
end
end Go.Proofs.Ytidkfjgelcpieaa
