/- The document's book: Tag, Verify. Conditions: none. -/
import Derived.Test.YtidkfjgelcpieaaMacRu
set_option linter.unusedVariables false
set_option linter.unusedSimpArgs false
namespace Go.Proofs.Ytidkfjgelcpieaa
open Go.RowKit Go.Bst Go.MapKept Go.Proofs.YtidkfjgelcpieaaW.PrintLast
attribute [local irreducible] sumOf wpList Calls Code.wp Code.wpN Oper.wp Go.Proofs.YtidkfjgelcpieaaW.PrintLast.wpAnyLast
section
variable {E : Env} {w : World} {F : List HP} {b : Nat} {s : Bk} {kd : Int} {key : List UInt8}
theorem ref_tag {v : Value} {m : List UInt8} (hw : Sat E w (RBook b kd key s :: F)) (hR : ∀ w', Sat E w' F → Rd w' 1 v m.length (ybs m)) (hm : m.length ≤ 1000000) (hn : s.ms.length ≤ 100000) (hn2 : s.bs.length ≤ 100000) (hml : ∀ x ∈ s.ms, x.msg.length ≤ 1000000) :
    Calls Try.prog 29 #[.pointer (some ⟨b, 0, none⟩), v] w fun e w' => e = .returned (U (s.tagR m)) ∧ Sat E w' (RBook b kd key (s.tagS m) :: F) := by
  cases hi : idx s.ms m with
  | none => exact ref_tag_new hw hR hi hm hn hn2 hml
  | some i => exact ref_tag_old hw hR hi hn hml
set_option maxRecDepth 100000 in
set_option maxHeartbeats 4000000 in
theorem ref_verify0 {v : Value} {m : List UInt8} {t : BitVec 64} (hw : Sat E w (RBook b 0 key s :: F)) (hkey : s.key = none) (hR : ∀ w', Sat E w' F → Rd w' 1 v m.length (ybs m)) (hm : m.length ≤ 1000000) (hn : s.ms.length ≤ 100000) (hml : ∀ x ∈ s.ms, x.msg.length ≤ 1000000) :
    Calls Try.prog 28 #[.pointer (some ⟨b, 0, none⟩), v, U t] w fun e w' => e = .returned (.bool (s.fits m t)) ∧ Sat E w' (RBook b 0 key (s.verS m t) :: F) := by
  have hvs : s.verS m t = s := by
    unfold Bk.verS
    by_cases hf : s.fits m t = true
    · rw [if_pos hf]
      have : (idx s.ms m).isSome = true := by
        unfold Bk.fits at hf
        rw [hkey] at hf
        cases hi : idx s.ms m with
        | none => rw [hi] at hf; cases hf
        | some i => rfl
      rw [if_pos this]
    · rw [if_neg hf]
  rw [hvs]
  clear hvs
  have HML := Kp.mk hml
  have HR := Kp.mk hR
  clear hml hR
  cases hi : idx s.ms m with
  | none =>
    have hfin := Kp.mk (show s.fits m t = false by unfold Bk.fits; rw [hkey]; simp [hi])
    have hfd := Kp.mk (show findR s.ms m = -1 by unfold findR; rw [hi])
    clear hi hkey
    go_enter Try.func28, Try.ntmps28
    go_upto_region 2 with (first
      | (go_at_call 30; go_must (refine (ref_Find hw HR.out hn HML.out).mono ?_); clear hw; rw [hfd.out]; rintro e w ⟨rfl, hw⟩))
    have hw0 := hw
    clear hw
    obtain ⟨cs, ml, bl, h, v1, v2, ok, hw⟩ := RBook_open hw0
    clear hw0
    have OK := Kp.mk ok
    clear ok
    go_wp2_with (first
      | (refine wl_load1 hw rfl 0 rfl (by decide +kernel) OK.out.cells.c0 ?_))
    go_ret
    exact ⟨by rw [hfin.out]; rfl, RBook_shut OK.out hw⟩
  | some i =>
    obtain ⟨x, hx, hxm⟩ := idx_some hi
    have hfin := Kp.mk (show s.fits m t = (x.tag == t) by unfold Bk.fits; rw [hkey]; simp [hi, tagAt_of hx])
    have hfd := Kp.mk (show findR s.ms m = (i : Int) by unfold findR; rw [hi])
    have hil : i < s.ms.length := idx_lt hi
    have hge : (0 : Int) ≤ (i : Int) := by omega
    have HX := Kp.mk hx
    clear hi hkey hx hxm
    go_enter Try.func28, Try.ntmps28
    go_upto_region 2 with (first
      | (go_at_call 30; go_must (refine (ref_Find hw HR.out hn HML.out).mono ?_); clear hw; rw [hfd.out]; rintro e w ⟨rfl, hw⟩))
    have hw0 := hw
    clear hw
    obtain ⟨cs, ml, bl, h, v1, v2, ok, hw⟩ := RBook_open hw0
    clear hw0
    obtain ⟨A1, c1, rfl, _, hg1⟩ := Row_val hw 1 rfl
    have hll : i < ml.length := by rw [← ok.mm, List.length_map] at hil; exact hil
    obtain ⟨g1, rfl⟩ := hg1 (by omega)
    obtain ⟨⟨vx, x'⟩, hx'⟩ : ∃ p, ml[i]? = some p := ⟨_, List.getElem?_eq_getElem hll⟩
    have hxx : x' = x := by
      have := HX.out
      rw [← ok.mm, List.getElem?_map, hx'] at this
      injection this
    subst hxx
    have hc1 := mcell_at hx' 1 (U x'.tag) rfl
    have OK := Kp.mk ok
    clear ok hx' hg1
    go_wp2_with (first
      | (refine wl_load1 hw rfl 0 rfl (by decide +kernel) OK.out.cells.c0 ?_)
      | (refine wl_want (by rfl) (fun K hK => ?_); refine wk_load1 hw rfl 0 rfl (by decide +kernel) OK.out.cells.c17 ?_; skip; refine hK _ _ ?_; clear hK K)
      | (refine wl_want (by rfl) (fun K hK => ?_); refine wk_rowIdx i (i * 2) rfl hw rfl rfl 1 rfl u_marks mark_size hll ?_; refine hK _ _ ?_; clear hK K)
      | (refine wl_want (by rfl) (fun K hK => ?_); refine wk_rowLd1 (j := i * 2 + 1) hw rfl rfl 1 rfl (by decide +kernel) _ hc1 ?_; refine hK _ _ ?_; clear hK K)
      | (refine wl_want (by rfl) (fun K hK => ?_); refine wk_run (rn_ueql (p := x'.tag) (q := t) rfl (by exact rfl) (by exact rfl) _ rfl) ?_; refine hK _ _ ?_; clear hK K))
    go_ret
    exact ⟨by rw [hfin.out]; rfl, RBook_shut OK.out hw⟩
set_option maxRecDepth 100000 in
set_option maxHeartbeats 8000000 in
theorem ref_verify1 {v : Value} {m : List UInt8} {t : BitVec 64} (hw : Sat E w (RBook b 1 key s :: F)) (hkey : s.key = some key) (hR : ∀ w', Sat E w' F → Rd w' 1 v m.length (ybs m)) (hm : m.length ≤ 1000000) (hn : s.ms.length ≤ 100000) (hn2 : s.bs.length ≤ 100000) (hml : ∀ x ∈ s.ms, x.msg.length ≤ 1000000) :
    Calls Try.prog 28 #[.pointer (some ⟨b, 0, none⟩), v, U t] w fun e w' => e = .returned (.bool (s.fits m t)) ∧ Sat E w' (RBook b 1 key (s.verS m t) :: F) := by
  have HML := Kp.mk hml
  have HR := Kp.mk hR
  have hfi : s.fits m t = (sumOf key m == t) := by unfold Bk.fits; rw [hkey]
  obtain ⟨fd, hfd⟩ : ∃ fd, findR s.ms m = fd := ⟨_, rfl⟩
  have HFD := Kp.mk hfd
  clear hml hR hfd
  have HFI := Kp.mk hfi
  clear hfi
  go_enter Try.func28, Try.ntmps28
  go_upto_region 2 with (first
    | (go_at_call 30; go_must (refine (ref_Find hw HR.out hn HML.out).mono ?_); clear hw; rw [HFD.out]; rintro e w ⟨rfl, hw⟩))
  have hw0 := hw
  clear hw
  obtain ⟨cs, ml, bl, h, v1, v2, ok, hw⟩ := RBook_open hw0
  clear hw0
  obtain ⟨A2, c2, rfl, _, _⟩ := Row_val hw 2 rfl
  have hbl : bl.length ≤ 100000 := by rw [← ok.bb, List.length_map] at hn2; exact hn2
  have hkz : (ybs key).toArray.size = 16 := by simp [ybs, ok.kl]
  have hks := ok.kl
  have OK := Kp.mk ok
  clear ok
  cases hb : (sumOf key m == t) with
  | false =>
    have hb' := Kp.mk (show (sumOf key m != t) = true by simp [bne, hb])
    have e1 := Kp.mk (show s.fits m t = false from HFI.out.trans hb)
    have e2 := Kp.mk (show s.verS m t = s by unfold Bk.verS; rw [if_neg (by rw [e1.out]; simp)])
    clear hb hkey
    go_wp2_with (first
      | (refine wl_load1 hw rfl 0 rfl (by decide +kernel) OK.out.cells.c0 ?_)
      | (refine wl_run (rn_satLdP (m := (ybs key).toArray) rfl hw 0 rfl rfl (by rw [key_agg, hkz]) (by rw [hkz]; exact OK.out.cells.ck) (by rw [hkz, OK.out.cells.size]; omega)) ?_)
      | (go_at_call 14; go_must (refine (ref_Sum hw hks (fun w' hs => HR.out w' hs.tail.tail.tail.tail) hm).mono ?_); clear hw; rintro e w ⟨rfl, hw⟩)
      | (refine wl_uneq (p := sumOf key m) (q := t) (by exact rfl) (by exact rfl) true hb'.out ?_))
    go_ret
    exact ⟨by rw [e1.out]; rfl, by rw [e2.out]; exact RBook_shut OK.out hw⟩
  | true =>
    have hb' := Kp.mk (show (sumOf key m != t) = false by simp [bne, hb])
    have e1 := Kp.mk (show s.fits m t = true from HFI.out.trans hb)
    clear hb hkey
    cases hi : idx s.ms m with
    | some i =>
      have e2 := Kp.mk (show s.verS m t = s by unfold Bk.verS; rw [if_pos e1.out, hi]; rfl)
      obtain rfl : fd = (i : Int) := by rw [← HFD.out]; unfold findR; rw [hi]
      have hge : ¬ ((i : Int) < 0) := by omega
      clear hi
      go_wp2_with (first
        | (refine wl_load1 hw rfl 0 rfl (by decide +kernel) OK.out.cells.c0 ?_)
        | (refine wl_run (rn_satLdP (m := (ybs key).toArray) rfl hw 0 rfl rfl (by rw [key_agg, hkz]) (by rw [hkz]; exact OK.out.cells.ck) (by rw [hkz, OK.out.cells.size]; omega)) ?_)
        | (go_at_call 14; go_must (refine (ref_Sum hw hks (fun w' hs => HR.out w' hs.tail.tail.tail.tail) hm).mono ?_); clear hw; rintro e w ⟨rfl, hw⟩)
        | (refine wl_uneq (p := sumOf key m) (q := t) (by exact rfl) (by exact rfl) false hb'.out ?_))
      go_ret
      exact ⟨by rw [e1.out]; rfl, by rw [e2.out]; exact RBook_shut OK.out hw⟩
    | none =>
      have e2 := Kp.mk (show s.verS m t = ⟨s.key, s.ms, s.bs ++ [⟨1, m, [], t⟩]⟩ by unfold Bk.verS; rw [if_pos e1.out, hi]; rfl)
      obtain rfl : fd = -1 := by rw [← HFD.out]; unfold findR; rw [hi]
      clear hi
      go_wp2_with (first
        | (refine wl_load1 hw rfl 0 rfl (by decide +kernel) OK.out.cells.c0 ?_)
        | (refine wl_run (rn_satLdP (m := (ybs key).toArray) rfl hw 0 rfl rfl (by rw [key_agg, hkz]) (by rw [hkz]; exact OK.out.cells.ck) (by rw [hkz, OK.out.cells.size]; omega)) ?_)
        | (go_at_call 14; go_must (refine (ref_Sum hw hks (fun w' hs => HR.out w' hs.tail.tail.tail.tail) hm).mono ?_); clear hw; rintro e w ⟨rfl, hw⟩)
        | (refine wl_uneq (p := sumOf key m) (q := t) (by exact rfl) (by exact rfl) false hb'.out ?_))
      have hS0 := hw
      refine startS (ds := [11, 14]) hS0 #[false, false, false, false, false, false, false, false, false, false, false, false, false, false, false] (by kernel_rfl) rfl (by rfl) ?_
      clear hS0; intro hS
      replace hw := hw.drew; generalize w.drew = w at hw hS ⊢
      (refine pureE (i := 0) (oi := { dst := some 40, op := Op.move (Operand.tmp 0), type := 62, pos := "ref.go:62", after := #[], guard := none }) (N := some 40) #[true, false, false, false, false, false, false, false, false, false, false, false, false, false, false] rfl rfl (by kernel_rfl) (fun _ _ _ _ h => h) ?_; apply Exists.intro; refine ⟨Or.inl ⟨by rfl, ?_⟩, ?_⟩; · (intro w0; first | (exact rn_build #[.int .i64 1, .slice Ao m.length co, .slice none 0 0, U t] rfl (by simp only [List.map_cons, List.map_nil, Act.eval, Act.put, List.setIfInBounds_toArray, List.set_cons_succ, List.set_cons_zero, gd_s, gd_0, U_cells, Value.cells]; exact rfl) (by kernel_rfl)) | (go_simp; try with_reducible rfl)))
      try simp only [Act.put, List.setIfInBounds_toArray, List.set_cons_succ, List.set_cons_zero]
      (refine pureE (i := 1) (oi := { dst := some 41, op := Op.move (Operand.tmp 0), type := 62, pos := "ref.go:62", after := #[], guard := none }) (N := some 41) #[true, true, false, false, false, false, false, false, false, false, false, false, false, false, false] rfl rfl (by kernel_rfl) (fun _ _ _ _ h => h) ?_; apply Exists.intro; refine ⟨Or.inl ⟨by rfl, ?_⟩, ?_⟩; · (intro w0; first | (exact rn_build #[.int .i64 1, .slice Ao m.length co, .slice none 0 0, U t] rfl (by simp only [List.map_cons, List.map_nil, Act.eval, Act.put, List.setIfInBounds_toArray, List.set_cons_succ, List.set_cons_zero, gd_s, gd_0, U_cells, Value.cells]; exact rfl) (by kernel_rfl)) | (go_simp; try with_reducible rfl)))
      try simp only [Act.put, List.setIfInBounds_toArray, List.set_cons_succ, List.set_cons_zero]
      (refine pureE (i := 2) (oi := { dst := some 42, op := Op.nilCheck (Operand.tmp 41), type := 0, pos := "ref.go:62", after := #[{ on := 1, ground := Ground.data }], guard := none }) (N := some 42) #[true, true, true, false, false, false, false, false, false, false, false, false, false, false, false] rfl rfl (by kernel_rfl) (fun _ _ _ _ h => h) ?_; apply Exists.intro; refine ⟨Or.inl ⟨by rfl, ?_⟩, ?_⟩; · (intro w0; first | (exact rn_build #[.int .i64 1, .slice Ao m.length co, .slice none 0 0, U t] rfl (by simp only [List.map_cons, List.map_nil, Act.eval, Act.put, List.setIfInBounds_toArray, List.set_cons_succ, List.set_cons_zero, gd_s, gd_0, U_cells, Value.cells]; exact rfl) (by kernel_rfl)) | (go_simp; try with_reducible rfl)))
      try simp only [Act.put, List.setIfInBounds_toArray, List.set_cons_succ, List.set_cons_zero]
      (refine pureE (i := 3) (oi := { dst := some 43, op := Op.fieldAddr 64 (Operand.tmp 42) 3, type := 0, pos := "ref.go:62", after := #[{ on := 2, ground := Ground.data }], guard := none }) (N := some 43) #[true, true, true, true, false, false, false, false, false, false, false, false, false, false, false] rfl rfl (by kernel_rfl) (fun _ _ _ _ h => h) ?_; apply Exists.intro; refine ⟨Or.inl ⟨by rfl, ?_⟩, ?_⟩; · (intro w0; first | (exact rn_build #[.int .i64 1, .slice Ao m.length co, .slice none 0 0, U t] rfl (by simp only [List.map_cons, List.map_nil, Act.eval, Act.put, List.setIfInBounds_toArray, List.set_cons_succ, List.set_cons_zero, gd_s, gd_0, U_cells, Value.cells]; exact rfl) (by kernel_rfl)) | (go_simp; try with_reducible rfl)))
      try simp only [Act.put, List.setIfInBounds_toArray, List.set_cons_succ, List.set_cons_zero]
      (refine pureE (i := 6) (oi := { dst := some 46, op := Op.move (Operand.tmp 1), type := 24, pos := "ref.go:62", after := #[], guard := none }) (N := some 46) #[true, true, true, true, false, false, true, false, false, false, false, false, false, false, false] rfl rfl (by kernel_rfl) (fun _ _ _ _ h => h) ?_; apply Exists.intro; refine ⟨Or.inl ⟨by rfl, ?_⟩, ?_⟩; · (intro w0; first | (exact rn_build #[.int .i64 1, .slice Ao m.length co, .slice none 0 0, U t] rfl (by simp only [List.map_cons, List.map_nil, Act.eval, Act.put, List.setIfInBounds_toArray, List.set_cons_succ, List.set_cons_zero, gd_s, gd_0, U_cells, Value.cells]; exact rfl) (by kernel_rfl)) | (go_simp; try with_reducible rfl)))
      try simp only [Act.put, List.setIfInBounds_toArray, List.set_cons_succ, List.set_cons_zero]
      (refine pureE (i := 8) (oi := { dst := some 48, op := Op.move (Operand.tmp 2), type := 25, pos := "ref.go:62", after := #[], guard := none }) (N := some 48) #[true, true, true, true, false, false, true, false, true, false, false, false, false, false, false] rfl rfl (by kernel_rfl) (fun _ _ _ _ h => h) ?_; apply Exists.intro; refine ⟨Or.inl ⟨by rfl, ?_⟩, ?_⟩; · (intro w0; first | (exact rn_build #[.int .i64 1, .slice Ao m.length co, .slice none 0 0, U t] rfl (by simp only [List.map_cons, List.map_nil, Act.eval, Act.put, List.setIfInBounds_toArray, List.set_cons_succ, List.set_cons_zero, gd_s, gd_0, U_cells, Value.cells]; exact rfl) (by kernel_rfl)) | (go_simp; try with_reducible rfl)))
      try simp only [Act.put, List.setIfInBounds_toArray, List.set_cons_succ, List.set_cons_zero]
      (refine takeE (i := 4) (oi := { dst := some 44, op := Op.load 57 (Operand.tmp 43), type := 57, pos := "ref.go:62", after := #[{ on := 3, ground := Ground.data }], guard := none }) (N := some 44) #[true, true, true, true, true, false, true, false, true, false, false, false, false, false, false] rfl rfl (by kernel_rfl) (fun _ _ _ _ h => h) hS ?_; apply Exists.intro; refine ⟨Or.inl ⟨by rfl, ?_⟩, ?_⟩; · (intro w0 h; first | (exact rn_satLd1 rfl h 0 rfl rfl (by decide +kernel) OK.out.cells.c18) | (exact rn_satLd1 rfl h 0 rfl rfl (by decide +kernel) (by simp only [List.getElem?_toArray, List.getElem?_cons_succ, List.getElem?_cons_zero]; exact rfl)) | (exact rn_satLd1 rfl h 1 rfl rfl (by decide +kernel) (by simp only [List.getElem?_toArray, List.getElem?_cons_succ, List.getElem?_cons_zero]; exact rfl)) | (exact rn_satLd1 rfl h 2 rfl rfl (by decide +kernel) (by simp only [List.getElem?_toArray, List.getElem?_cons_succ, List.getElem?_cons_zero]; exact rfl)) | (exact rn_satLd1 rfl h 3 rfl rfl (by decide +kernel) (by simp only [List.getElem?_toArray, List.getElem?_cons_succ, List.getElem?_cons_zero]; exact rfl)) | (exact rn_satLd1 rfl h 4 rfl rfl (by decide +kernel) (by simp only [List.getElem?_toArray, List.getElem?_cons_succ, List.getElem?_cons_zero]; exact rfl)) | (exact rn_satLd1 rfl h 5 rfl rfl (by decide +kernel) (by simp only [List.getElem?_toArray, List.getElem?_cons_succ, List.getElem?_cons_zero]; exact rfl)) | (exact rn_satLd1 rfl h 6 rfl rfl (by decide +kernel) (by simp only [List.getElem?_toArray, List.getElem?_cons_succ, List.getElem?_cons_zero]; exact rfl)) | (exact rn_satLd1 rfl h 7 rfl rfl (by decide +kernel) (by simp only [List.getElem?_toArray, List.getElem?_cons_succ, List.getElem?_cons_zero]; exact rfl)) | (exact rn_satLdA rfl h 0 rfl rfl (by kernel_rfl)) | (exact rn_satLdA rfl h 1 rfl rfl (by kernel_rfl)) | (exact rn_satLdA rfl h 2 rfl rfl (by kernel_rfl)) | (exact rn_satLdA rfl h 3 rfl rfl (by kernel_rfl)) | (exact rn_satLdA rfl h 4 rfl rfl (by kernel_rfl)) | (exact rn_satLdA rfl h 5 rfl rfl (by kernel_rfl)) | (exact rn_satLdA rfl h 6 rfl rfl (by kernel_rfl)) | (exact rn_satLdA rfl h 7 rfl rfl (by kernel_rfl)) | (exact rn_rowLd1 rfl h 0 rfl rfl (by decide +kernel) _ (by assumption)) | (exact rn_rowLd1 rfl h 1 rfl rfl (by decide +kernel) _ (by assumption)) | (exact rn_rowLd1 rfl h 2 rfl rfl (by decide +kernel) _ (by assumption)) | (exact rn_rowLd1 rfl h 3 rfl rfl (by decide +kernel) _ (by assumption)) | (exact rn_rowLd1 rfl h 4 rfl rfl (by decide +kernel) _ (by assumption)) | (exact rn_rowLd1 rfl h 5 rfl rfl (by decide +kernel) _ (by assumption)) | (exact rn_rowLd1 rfl h 6 rfl rfl (by decide +kernel) _ (by assumption)) | (exact rn_rowLd1 rfl h 7 rfl rfl (by decide +kernel) _ (by assumption)) | (go_simp; with_reducible rfl)))
      try simp only [Act.put, List.setIfInBounds_toArray, List.set_cons_succ, List.set_cons_zero]
      (refine one_ (i := 5) (oi := { dst := some 45, op := Op.buildSlice 24 0 #[], type := 24, pos := "ref.go:62", after := #[], guard := none }) (N := some 45) #[true, true, true, true, true, true, true, false, true, false, false, false, false, false, false] rfl rfl (by kernel_rfl) (by decide) (fun K hK => ?_); rw [if_pos (by rfl)]; first | (refine wk_lit0 (el := 5) (sz := 1) hw (by kernel_rfl) (by kernel_rfl) ?_; clear hw; intro b0 w hw) | (refine wk_append hw 0 rfl rfl rfl (HR.out _ hw.tail.tail.tail.tail.tail) u_bytes byte_info rfl (by omega) ybs_one (by simp only [maxLen]; omega) (by omega) ?_; clear hw; intro v w hw hv; clear hv; rw [Nat.zero_add, List.nil_append] at hw; (try simp only [List.set_cons_succ, List.set_cons_zero, List.setIfInBounds_toArray, Value.cells, List.eraseIdx_cons_succ, List.eraseIdx_cons_zero] at hw); obtain ⟨Ao, co, rfl, _, _⟩ := Row_val hw 0 rfl) | (refine wk_lit1 (el := 60) (sz := 4) (v := .agg #[.int .i64 1, .slice Ao m.length co, .slice none 0 0, U t]) hw rfl (by kernel_rfl) (by kernel_rfl) (by kernel_rfl) rfl (by omega) (by omega) ?_; clear hw; intro b1 w hw; (try simp only [List.set_cons_succ, List.set_cons_zero, List.setIfInBounds_toArray, Value.cells, List.eraseIdx_cons_succ, List.eraseIdx_cons_zero] at hw)))
      refine hK.out _ _ (Sat.gets hw (by repeat (first | exact Gets.nil | exact Gets.refl _ | refine Gets.get 0 rfl ?_ | refine Gets.get 1 rfl ?_ | refine Gets.get 2 rfl ?_ | refine Gets.get 3 rfl ?_ | refine Gets.get 4 rfl ?_ | refine Gets.get 5 rfl ?_ | refine Gets.get 6 rfl ?_ | refine Gets.get 7 rfl ?_ | refine Gets.get 8 rfl ?_ | refine Gets.get 9 rfl ?_ | refine Gets.drop ?_))) (fun hS => ?_); clear hK K; try simp only [Act.put, List.setIfInBounds_toArray, List.set_cons_succ, List.set_cons_zero]
      (refine one_ (i := 7) (oi := { dst := some 47, op := Op.call { callee := Callee.builtin Builtin.append, args := #[Operand.tmp 45, Operand.tmp 46], argTypes := #[24, 24] }, type := 24, pos := "ref.go:62", after := #[{ on := 5, ground := Ground.data }, { on := 6, ground := Ground.data }], guard := none }) (N := some 47) #[true, true, true, true, true, true, true, true, true, false, false, false, false, false, false] rfl rfl (by kernel_rfl) (by decide) (fun K hK => ?_); rw [if_pos (by rfl)]; first | (refine wk_lit0 (el := 5) (sz := 1) hw (by kernel_rfl) (by kernel_rfl) ?_; clear hw; intro b0 w hw) | (refine wk_append hw 0 rfl rfl rfl (HR.out _ hw.tail.tail.tail.tail.tail) u_bytes byte_info rfl (by omega) ybs_one (by simp only [maxLen]; omega) (by omega) ?_; clear hw; intro v w hw hv; clear hv; rw [Nat.zero_add, List.nil_append] at hw; (try simp only [List.set_cons_succ, List.set_cons_zero, List.setIfInBounds_toArray, Value.cells, List.eraseIdx_cons_succ, List.eraseIdx_cons_zero] at hw); obtain ⟨Ao, co, rfl, _, _⟩ := Row_val hw 0 rfl) | (refine wk_lit1 (el := 60) (sz := 4) (v := .agg #[.int .i64 1, .slice Ao m.length co, .slice none 0 0, U t]) hw rfl (by kernel_rfl) (by kernel_rfl) (by kernel_rfl) rfl (by omega) (by omega) ?_; clear hw; intro b1 w hw; (try simp only [List.set_cons_succ, List.set_cons_zero, List.setIfInBounds_toArray, Value.cells, List.eraseIdx_cons_succ, List.eraseIdx_cons_zero] at hw)))
      refine hK.out _ _ (Sat.gets hw (by repeat (first | exact Gets.nil | exact Gets.refl _ | refine Gets.get 0 rfl ?_ | refine Gets.get 1 rfl ?_ | refine Gets.get 2 rfl ?_ | refine Gets.get 3 rfl ?_ | refine Gets.get 4 rfl ?_ | refine Gets.get 5 rfl ?_ | refine Gets.get 6 rfl ?_ | refine Gets.get 7 rfl ?_ | refine Gets.get 8 rfl ?_ | refine Gets.get 9 rfl ?_ | refine Gets.drop ?_))) (fun hS => ?_); clear hK K; try simp only [Act.put, List.setIfInBounds_toArray, List.set_cons_succ, List.set_cons_zero]
      (refine pureE (i := 9) (oi := { dst := some 49, op := Op.build 60 #[(0, Operand.const (Value.int IntKind.i64 1)), (1, Operand.tmp 47), (3, Operand.tmp 48)], type := 60, pos := "ref.go:62", after := #[{ on := 7, ground := Ground.data }, { on := 8, ground := Ground.data }], guard := none }) (N := some 49) #[true, true, true, true, true, true, true, true, true, true, false, false, false, false, false] rfl rfl (by kernel_rfl) (fun _ _ _ _ h => h) ?_; apply Exists.intro; refine ⟨Or.inl ⟨by rfl, ?_⟩, ?_⟩; · (intro w0; first | (exact rn_build #[.int .i64 1, .slice Ao m.length co, .slice none 0 0, U t] rfl (by simp only [List.map_cons, List.map_nil, Act.eval, Act.put, List.setIfInBounds_toArray, List.set_cons_succ, List.set_cons_zero, gd_s, gd_0, U_cells, Value.cells]; exact rfl) (by kernel_rfl)) | (go_simp; try with_reducible rfl)))
      try simp only [Act.put, List.setIfInBounds_toArray, List.set_cons_succ, List.set_cons_zero]
      (refine one_ (i := 10) (oi := { dst := some 50, op := Op.buildSlice 57 1 #[(0, Operand.tmp 49)], type := 57, pos := "ref.go:62", after := #[{ on := 9, ground := Ground.data }], guard := none }) (N := some 50) #[true, true, true, true, true, true, true, true, true, true, true, false, false, false, false] rfl rfl (by kernel_rfl) (by decide) (fun K hK => ?_); rw [if_pos (by rfl)]; first | (refine wk_lit0 (el := 5) (sz := 1) hw (by kernel_rfl) (by kernel_rfl) ?_; clear hw; intro b0 w hw) | (refine wk_append hw 0 rfl rfl rfl (HR.out _ hw.tail.tail.tail.tail.tail) u_bytes byte_info rfl (by omega) ybs_one (by simp only [maxLen]; omega) (by omega) ?_; clear hw; intro v w hw hv; clear hv; rw [Nat.zero_add, List.nil_append] at hw; (try simp only [List.set_cons_succ, List.set_cons_zero, List.setIfInBounds_toArray, Value.cells, List.eraseIdx_cons_succ, List.eraseIdx_cons_zero] at hw); obtain ⟨Ao, co, rfl, _, _⟩ := Row_val hw 0 rfl) | (refine wk_lit1 (el := 60) (sz := 4) (v := .agg #[.int .i64 1, .slice Ao m.length co, .slice none 0 0, U t]) hw rfl (by kernel_rfl) (by kernel_rfl) (by kernel_rfl) rfl (by omega) (by omega) ?_; clear hw; intro b1 w hw; (try simp only [List.set_cons_succ, List.set_cons_zero, List.setIfInBounds_toArray, Value.cells, List.eraseIdx_cons_succ, List.eraseIdx_cons_zero] at hw)))
      refine hK.out _ _ (Sat.gets hw (by repeat (first | exact Gets.nil | exact Gets.refl _ | refine Gets.get 0 rfl ?_ | refine Gets.get 1 rfl ?_ | refine Gets.get 2 rfl ?_ | refine Gets.get 3 rfl ?_ | refine Gets.get 4 rfl ?_ | refine Gets.get 5 rfl ?_ | refine Gets.get 6 rfl ?_ | refine Gets.get 7 rfl ?_ | refine Gets.get 8 rfl ?_ | refine Gets.get 9 rfl ?_ | refine Gets.drop ?_))) (fun hS => ?_); clear hK K; try simp only [Act.put, List.setIfInBounds_toArray, List.set_cons_succ, List.set_cons_zero]
      (refine last_ (i := 11) (oi := { dst := some 51, op := Op.call { callee := Callee.builtin Builtin.append, args := #[Operand.tmp 44, Operand.tmp 50], argTypes := #[57, 57] }, type := 57, pos := "ref.go:62", after := #[{ on := 4, ground := Ground.data }, { on := 10, ground := Ground.data }, { on := 7, ground := Ground.chain }], guard := none }) (N := some 51) #[true, true, true, true, true, true, true, true, true, true, true, true, false, false, false] rfl rfl (by kernel_rfl) (by decide) (fun K hK => ?_); rw [if_pos (by rfl)]; first | (refine wk_append hw 4 rfl rfl rfl (Rd_blk hw 0 rfl (n := 1) (Nat.le_refl _) [.int .i64 1, .slice Ao m.length co, .slice none 0 0, U t] rfl rfl) u_bads bad_info rfl (by omega) (one_bad rfl rfl) (by simp only [maxLen]; omega) (by omega) ?_; clear hw; intro vv w hw hv; clear hv; (try simp only [List.set_cons_succ, List.set_cons_zero, List.setIfInBounds_toArray, Value.cells, List.eraseIdx_cons_succ, List.eraseIdx_cons_zero] at hw); obtain ⟨A5, c5, rfl, _, _⟩ := Row_val hw 4 rfl) | (refine wk_store1 hw rfl 2 rfl (.slice A5 (bl.length + 1) c5) rfl (by decide +kernel) (by rw [OK.out.cells.size]; omega) rfl ?_; clear hw; intro w hw; (try simp only [List.set_cons_succ, List.set_cons_zero, List.setIfInBounds_toArray, Value.cells, List.eraseIdx_cons_succ, List.eraseIdx_cons_zero] at hw)))
      refine hK.out _ _ ?_; clear hK K; try simp only [Act.put, List.setIfInBounds_toArray, List.set_cons_succ, List.set_cons_zero]
      (refine pureE (i := 12) (oi := { dst := some 52, op := Op.nilCheck (Operand.tmp 40), type := 0, pos := "ref.go:62", after := #[{ on := 0, ground := Ground.data }, { on := 0, ground := Ground.phase }, { on := 1, ground := Ground.phase }, { on := 2, ground := Ground.phase }, { on := 3, ground := Ground.phase }, { on := 4, ground := Ground.phase }, { on := 5, ground := Ground.phase }, { on := 6, ground := Ground.phase }, { on := 7, ground := Ground.phase }, { on := 8, ground := Ground.phase }, { on := 9, ground := Ground.phase }, { on := 10, ground := Ground.phase }, { on := 11, ground := Ground.phase }], guard := none }) (N := some 52) #[true, true, true, true, true, true, true, true, true, true, true, true, true, false, false] rfl rfl (by kernel_rfl) (fun _ _ _ _ h => h) ?_; apply Exists.intro; refine ⟨Or.inl ⟨by rfl, ?_⟩, ?_⟩; · (intro w0; first | (exact rn_build #[.int .i64 1, .slice Ao m.length co, .slice none 0 0, U t] rfl (by simp only [List.map_cons, List.map_nil, Act.eval, Act.put, List.setIfInBounds_toArray, List.set_cons_succ, List.set_cons_zero, gd_s, gd_0, U_cells, Value.cells]; exact rfl) (by kernel_rfl)) | (go_simp; try with_reducible rfl)))
      try simp only [Act.put, List.setIfInBounds_toArray, List.set_cons_succ, List.set_cons_zero]
      (refine pureE (i := 13) (oi := { dst := some 53, op := Op.fieldAddr 64 (Operand.tmp 52) 3, type := 0, pos := "ref.go:62", after := #[{ on := 12, ground := Ground.data }, { on := 0, ground := Ground.phase }, { on := 1, ground := Ground.phase }, { on := 2, ground := Ground.phase }, { on := 3, ground := Ground.phase }, { on := 4, ground := Ground.phase }, { on := 5, ground := Ground.phase }, { on := 6, ground := Ground.phase }, { on := 7, ground := Ground.phase }, { on := 8, ground := Ground.phase }, { on := 9, ground := Ground.phase }, { on := 10, ground := Ground.phase }, { on := 11, ground := Ground.phase }], guard := none }) (N := some 53) #[true, true, true, true, true, true, true, true, true, true, true, true, true, true, false] rfl rfl (by kernel_rfl) (fun _ _ _ _ h => h) ?_; apply Exists.intro; refine ⟨Or.inl ⟨by rfl, ?_⟩, ?_⟩; · (intro w0; first | (exact rn_build #[.int .i64 1, .slice Ao m.length co, .slice none 0 0, U t] rfl (by simp only [List.map_cons, List.map_nil, Act.eval, Act.put, List.setIfInBounds_toArray, List.set_cons_succ, List.set_cons_zero, gd_s, gd_0, U_cells, Value.cells]; exact rfl) (by kernel_rfl)) | (go_simp; try with_reducible rfl)))
      try simp only [Act.put, List.setIfInBounds_toArray, List.set_cons_succ, List.set_cons_zero]
      (refine last_ (i := 14) (oi := { dst := none, op := Op.store 57 (Operand.tmp 53) (Operand.tmp 51), type := 0, pos := "ref.go:62", after := #[{ on := 13, ground := Ground.data }, { on := 11, ground := Ground.data }, { on := 11, ground := Ground.chain }, { on := 0, ground := Ground.phase }, { on := 1, ground := Ground.phase }, { on := 2, ground := Ground.phase }, { on := 3, ground := Ground.phase }, { on := 4, ground := Ground.phase }, { on := 5, ground := Ground.phase }, { on := 6, ground := Ground.phase }, { on := 7, ground := Ground.phase }, { on := 8, ground := Ground.phase }, { on := 9, ground := Ground.phase }, { on := 10, ground := Ground.phase }, { on := 11, ground := Ground.phase }], guard := none }) (N := none) #[true, true, true, true, true, true, true, true, true, true, true, true, true, true, true] rfl rfl (by kernel_rfl) (by decide) (fun K hK => ?_); rw [if_pos (by rfl)]; first | (refine wk_append hw 4 rfl rfl rfl (Rd_blk hw 0 rfl (n := 1) (Nat.le_refl _) [.int .i64 1, .slice Ao m.length co, .slice none 0 0, U t] rfl rfl) u_bads bad_info rfl (by omega) (one_bad rfl rfl) (by simp only [maxLen]; omega) (by omega) ?_; clear hw; intro vv w hw hv; clear hv; (try simp only [List.set_cons_succ, List.set_cons_zero, List.setIfInBounds_toArray, Value.cells, List.eraseIdx_cons_succ, List.eraseIdx_cons_zero] at hw); obtain ⟨A5, c5, rfl, _, _⟩ := Row_val hw 4 rfl) | (refine wk_store1 hw rfl 2 rfl (.slice A5 (bl.length + 1) c5) rfl (by decide +kernel) (by rw [OK.out.cells.size]; omega) rfl ?_; clear hw; intro w hw; (try simp only [List.set_cons_succ, List.set_cons_zero, List.setIfInBounds_toArray, Value.cells, List.eraseIdx_cons_succ, List.eraseIdx_cons_zero] at hw)))
      refine hK.out _ _ ?_; clear hK K; try simp only [Act.put, List.setIfInBounds_toArray, List.set_cons_succ, List.set_cons_zero]
      refine done_ (by kernel_rfl) ?_; clear hS
      go_wp2
      go_ret
      replace hw := hw.tail
      obtain ⟨h1, hle, hrd, hw⟩ := Row_arcAt hw 0 3 rfl rfl
      (try simp only [List.set_cons_succ, List.set_cons_zero, List.setIfInBounds_toArray, Value.cells, List.eraseIdx_cons_succ, List.eraseIdx_cons_zero] at hw)
      rw [show [Value.int .i64 1, Value.slice Ao m.length co, Value.slice none 0 0, U t] = [Value.int .i64 (Bd.mk 1 m [] t).kind, Value.slice Ao m.length co, Value.slice none 0 0, U (Bd.mk 1 m [] t).tag] from rfl, bcells_push bl _ _ (⟨1, m, [], t⟩ : Bd)] at hw
      have hbl1 : (bl ++ [((Value.slice Ao m.length co, Value.slice none 0 0), (⟨1, m, [], t⟩ : Bd))]).length = bl.length + 1 := by rw [List.length_append]; rfl
      rw [← hbl1] at hw
      refine ⟨by rw [e1.out]; rfl, ?_⟩
      rw [e2.out]
      exact RBook_shut (ml := ml) (bl := bl ++ [((Value.slice Ao m.length co, Value.slice none 0 0), (⟨1, m, [], t⟩ : Bd))]) (h := h1) ⟨OK.out.cells.set18 _, OK.out.mm, by rw [List.map_append, OK.out.bb]; rfl, OK.out.mr.mono hle, (OK.out.br.mono hle).push hrd ⟨none, 0, rfl, Nat.le_refl _, rfl, fun h => absurd h (by simp)⟩, OK.out.kk, OK.out.kl, OK.out.k01⟩ (Sat.gets hw (by repeat (first | exact Gets.nil | exact Gets.refl _ | refine Gets.get 0 rfl ?_ | refine Gets.get 1 rfl ?_ | refine Gets.get 2 rfl ?_ | refine Gets.get 3 rfl ?_ | refine Gets.get 4 rfl ?_ | refine Gets.get 5 rfl ?_ | refine Gets.get 6 rfl ?_ | refine Gets.get 7 rfl ?_ | refine Gets.get 8 rfl ?_ | refine Gets.get 9 rfl ?_ | refine Gets.drop ?_)))
theorem ref_verify {v : Value} {m : List UInt8} {t : BitVec 64} (hw : Sat E w (RBook b kd key s :: F)) (hR : ∀ w', Sat E w' F → Rd w' 1 v m.length (ybs m)) (hm : m.length ≤ 1000000) (hn : s.ms.length ≤ 100000) (hn2 : s.bs.length ≤ 100000) (hml : ∀ x ∈ s.ms, x.msg.length ≤ 1000000) :
    Calls Try.prog 28 #[.pointer (some ⟨b, 0, none⟩), v, U t] w fun e w' => e = .returned (.bool (s.fits m t)) ∧ Sat E w' (RBook b kd key (s.verS m t) :: F) := by
  obtain ⟨cs, ml, bl, h, v1, v2, ok, _⟩ := RBook_open hw
  have hk := ok.kk
  rcases ok.k01 with rfl | rfl
  · exact ref_verify0 hw (by rw [hk]; rfl) hR hm hn hml
  · exact ref_verify1 hw (by rw [hk]; rfl) hR hm hn hn2 hml
end
end Go.Proofs.Ytidkfjgelcpieaa
