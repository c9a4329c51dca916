/- The book of package mac: Verify, Marks, Bad. Conditions: none. -/
import Derived.Test.YtidkfjgelcpieaaMacU
set_option linter.unusedVariables false
set_option linter.unusedSimpArgs false
namespace Go.Proofs.Ytidkfjgelcpieaa
open Go.RowKit Go.Bst Go.MapKept Go.Proofs.YtidkfjgelcpieaaW.PrintLast
attribute [local irreducible] wpList Calls Code.wp Code.wpN Oper.wp Go.Proofs.YtidkfjgelcpieaaW.PrintLast.wpAnyLast

section
variable {E : Env} {w : World} {F : List HP} {b : Nat} {s : Bk} {ml : List (Value × Mk)} {bl : List ((Value × Value) × Bd)} {h h' : PH}
variable {ops : Array Oper} {Q : Exit → Act → World → Prop} {rest : List Oper} {dd : Option Tmp} {tt : TypeId} {pos : String} {after : Array Edge} {a : Act} {x : Operand}
theorem wl_fits {args : Array Operand} {ts : Array TypeId} {v : Value} {m : List UInt8} {t : BitVec 64} (hR : ∀ w', Sat E w' F → Rd w' 1 v m.length (ybs m)) (hm : m.length ≤ 1000000)
    (hw : Sat E w (Book b s :: F))
    (hx : a.eval x = tgV s.key) (ha : args.map a.eval = #[.pointer (some ⟨b, 0, none⟩), v, U t])
    (hc : ∀ w', Sat E w' (Book b s :: F) → wpList Try.prog ops Q rest (a.put dd (.bool (s.fits m t))) w') :
    wpList Try.prog ops Q ({ dst := dd, op := .call { callee := .invoke x "bastion/mac.fits", args := args, argTypes := ts }, type := tt, pos := pos, after := after, guard := none } :: rest) a w := by
  obtain ⟨ml, bl, h, v1, v2, i, f, ok, hw⟩ := Book_open hw
  cases hk : s.key with
  | none =>
    rw [hk] at hx
    refine wl_invoke 57 hx (by kernel_rfl) (by kernel_rfl) ?_
    rw [ha]
    refine (fits_ideal (v := v) (m := m) (t := t) ok hk hR hw).mono ?_
    rintro e w' ⟨rfl, hw'⟩
    exact ⟨_, rfl, hc w' (Book_shut ok hw')⟩
  | some k =>
    rw [hk] at hx
    refine wl_invoke 59 hx (by kernel_rfl) (by kernel_rfl) ?_
    rw [ha]
    refine (fits_keyed (t := t) hw (ok.kk k hk) (fun w' hs => hR w' hs.tail.tail.tail.tail.tail.tail) hm).mono ?_
    rintro e w' ⟨rfl, hw'⟩
    refine ⟨_, rfl, ?_⟩
    have := hc w' (Book_shut ok hw')
    rw [show s.fits m t = (sumOf k m == t) from by unfold Bk.fits; rw [hk]] at this
    exact this
/-- The book's first cell, read without opening it. -/
theorem wl_tagger {ty : TypeId} (hw : Sat E w (Book b s :: F)) (hx : a.eval x = .pointer (some ⟨b, 0, none⟩)) (ht : oneSize Try.prog ty = true)
    (hc : wpList Try.prog ops Q rest (a.put dd (tgV s.key)) w) : wpList Try.prog ops Q ({ dst := dd, op := .load ty x, type := tt, pos := pos, after := after, guard := none } :: rest) a w := by
  obtain ⟨ml, bl, h, v1, v2, i, f, ok, hw⟩ := Book_open hw
  exact wl_load1 hw hx 0 rfl ht rfl hc
set_option maxRecDepth 100000 in
set_option maxHeartbeats 2000000 in
theorem mac_verify {v : Value} {m : List UInt8} {t : BitVec 64} (hw : Sat E w (Book b s :: F)) (hR : ∀ w', Sat E w' F → Rd w' 1 v m.length (ybs m)) (hm : m.length ≤ 1000000) (hn2 : s.bs.length ≤ 100000) :
    Calls Try.prog 23 #[.pointer (some ⟨b, 0, none⟩), v, U t] w fun e w' => e = .returned (.bool (s.fits m t)) ∧ Sat E w' (Book b (s.verS m t) :: F) := by
  have HR := Kp.mk hR
  clear hR
  cases hf : s.fits m t with
  | false =>
    have e1 := Kp.mk (show s.verS m t = s by unfold Bk.verS; rw [hf]; rfl)
    have HF := Kp.mk hf
    clear hf
    go_enter Try.func23, Try.ntmps23
    go_wp2_with (first
      | (refine wl_tagger hw rfl (by decide +kernel) ?_)
      | (refine wl_fits (t := t) HR.out hm hw rfl (by simp only [List.map_toArray, List.map_cons, List.map_nil, Act.eval, gd_s, gd_0]) ?_; clear hw; intro w hw; rw [HF.out]))
    go_ret
    exact ⟨rfl, by rw [e1.out]; exact hw⟩
  | true =>
    cases hi : (idx s.ms m).isSome with
    | true =>
      have e1 := Kp.mk (show s.verS m t = s by unfold Bk.verS; rw [hf]; simp [hi])
      have HF := Kp.mk hf
      have HI := Kp.mk hi
      clear hf hi
      go_enter Try.func23, Try.ntmps23
      go_wp2_with (first
        | (refine wl_tagger hw rfl (by decide +kernel) ?_)
        | (refine wl_fits (t := t) HR.out hm hw rfl (by simp only [List.map_toArray, List.map_cons, List.map_nil, Act.eval, gd_s, gd_0]) ?_; clear hw; intro w hw; rw [HF.out])
        | (go_at_call 26; refine (mac_has hw HR.out).mono ?_; clear hw; rintro e w ⟨rfl, hw⟩; rw [HI.out]))
      go_ret
      exact ⟨rfl, by rw [e1.out]; exact hw⟩
    | false =>
      have e1 := Kp.mk (show s.verS m t = ⟨s.key, s.ms, s.bs ++ [⟨1, m, [], t⟩]⟩ by unfold Bk.verS; rw [hf]; simp [hi])
      have HF := Kp.mk hf
      have HI := Kp.mk hi
      clear hf hi
      go_enter Try.func23, Try.ntmps23
      go_wp2_with (first
        | (refine wl_tagger hw rfl (by decide +kernel) ?_)
        | (refine wl_fits (t := t) HR.out hm hw rfl (by simp only [List.map_toArray, List.map_cons, List.map_nil, Act.eval, gd_s, gd_0]) ?_; clear hw; intro w hw; rw [HF.out])
        | (go_at_call 26; refine (mac_has hw HR.out).mono ?_; clear hw; rintro e w ⟨rfl, hw⟩; rw [HI.out]))
      obtain ⟨ml, bl, h, v1, v2, i, f, ok, hw⟩ := Book_open hw
      simp only [Bcs] at hw
      obtain ⟨A0, c0, rfl, _, _⟩ := Row_val hw 2 rfl
      have hbl := ok.blen
      have hbn : bl.length ≤ 100000 := by omega
      clear hbl
      have hS0 := hw
      refine startS (ds := [10, 13]) hS0 #[false, false, false, false, false, false, false, false, false, false, false, false, false, false] (by kernel_rfl) rfl (by rfl) ?_
      clear hS0; intro hS
      replace hw := hw.drew; generalize w.drew = w at hw hS ⊢
      (refine pureE (i := 0) (oi := { dst := some 20, op := Op.move (Operand.tmp 0), type := 40, pos := "mac.go:80", after := #[], guard := none }) (N := some 20) #[true, false, false, false, false, false, false, false, false, false, false, false, false, false] rfl rfl (by kernel_rfl) (fun _ _ _ _ h => h) ?_; apply Exists.intro; refine ⟨Or.inl ⟨by rfl, ?_⟩, ?_⟩; · (intro w0; first | (exact rn_build #[.int .i64 1, .slice Am m.length cm, .slice none 0 0, U t] rfl (by simp only [List.map_cons, List.map_nil, Act.eval, Act.put, List.setIfInBounds_toArray, List.set_cons_succ, List.set_cons_zero, gd_s, gd_0, U_cells, Value.cells]; exact rfl) (by kernel_rfl)) | (go_simp; try with_reducible rfl)))
      try simp only [Act.put, List.setIfInBounds_toArray, List.set_cons_succ, List.set_cons_zero]
      (refine pureE (i := 1) (oi := { dst := some 21, op := Op.move (Operand.tmp 0), type := 40, pos := "mac.go:80", after := #[], guard := none }) (N := some 21) #[true, true, false, false, false, false, false, false, false, false, false, false, false, false] rfl rfl (by kernel_rfl) (fun _ _ _ _ h => h) ?_; apply Exists.intro; refine ⟨Or.inl ⟨by rfl, ?_⟩, ?_⟩; · (intro w0; first | (exact rn_build #[.int .i64 1, .slice Am m.length cm, .slice none 0 0, U t] rfl (by simp only [List.map_cons, List.map_nil, Act.eval, Act.put, List.setIfInBounds_toArray, List.set_cons_succ, List.set_cons_zero, gd_s, gd_0, U_cells, Value.cells]; exact rfl) (by kernel_rfl)) | (go_simp; try with_reducible rfl)))
      try simp only [Act.put, List.setIfInBounds_toArray, List.set_cons_succ, List.set_cons_zero]
      (refine pureE (i := 2) (oi := { dst := some 22, op := Op.nilCheck (Operand.tmp 21), type := 0, pos := "mac.go:80", after := #[{ on := 1, ground := Ground.data }], guard := none }) (N := some 22) #[true, true, true, false, false, false, false, false, false, false, false, false, false, false] rfl rfl (by kernel_rfl) (fun _ _ _ _ h => h) ?_; apply Exists.intro; refine ⟨Or.inl ⟨by rfl, ?_⟩, ?_⟩; · (intro w0; first | (exact rn_build #[.int .i64 1, .slice Am m.length cm, .slice none 0 0, U t] rfl (by simp only [List.map_cons, List.map_nil, Act.eval, Act.put, List.setIfInBounds_toArray, List.set_cons_succ, List.set_cons_zero, gd_s, gd_0, U_cells, Value.cells]; exact rfl) (by kernel_rfl)) | (go_simp; try with_reducible rfl)))
      try simp only [Act.put, List.setIfInBounds_toArray, List.set_cons_succ, List.set_cons_zero]
      (refine pureE (i := 3) (oi := { dst := some 23, op := Op.fieldAddr 79 (Operand.tmp 22) 4, type := 0, pos := "mac.go:80", after := #[{ on := 2, ground := Ground.data }], guard := none }) (N := some 23) #[true, true, true, true, false, false, false, false, false, false, false, false, false, false] rfl rfl (by kernel_rfl) (fun _ _ _ _ h => h) ?_; apply Exists.intro; refine ⟨Or.inl ⟨by rfl, ?_⟩, ?_⟩; · (intro w0; first | (exact rn_build #[.int .i64 1, .slice Am m.length cm, .slice none 0 0, U t] rfl (by simp only [List.map_cons, List.map_nil, Act.eval, Act.put, List.setIfInBounds_toArray, List.set_cons_succ, List.set_cons_zero, gd_s, gd_0, U_cells, Value.cells]; exact rfl) (by kernel_rfl)) | (go_simp; try with_reducible rfl)))
      try simp only [Act.put, List.setIfInBounds_toArray, List.set_cons_succ, List.set_cons_zero]
      (refine pureE (i := 5) (oi := { dst := some 25, op := Op.move (Operand.tmp 1), type := 24, pos := "mac.go:80", after := #[], guard := none }) (N := some 25) #[true, true, true, true, false, true, false, false, false, false, false, false, false, false] rfl rfl (by kernel_rfl) (fun _ _ _ _ h => h) ?_; apply Exists.intro; refine ⟨Or.inl ⟨by rfl, ?_⟩, ?_⟩; · (intro w0; first | (exact rn_build #[.int .i64 1, .slice Am m.length cm, .slice none 0 0, U t] rfl (by simp only [List.map_cons, List.map_nil, Act.eval, Act.put, List.setIfInBounds_toArray, List.set_cons_succ, List.set_cons_zero, gd_s, gd_0, U_cells, Value.cells]; exact rfl) (by kernel_rfl)) | (go_simp; try with_reducible rfl)))
      try simp only [Act.put, List.setIfInBounds_toArray, List.set_cons_succ, List.set_cons_zero]
      (refine pureE (i := 7) (oi := { dst := some 27, op := Op.move (Operand.tmp 2), type := 25, pos := "mac.go:80", after := #[], guard := none }) (N := some 27) #[true, true, true, true, false, true, false, true, false, false, false, false, false, false] rfl rfl (by kernel_rfl) (fun _ _ _ _ h => h) ?_; apply Exists.intro; refine ⟨Or.inl ⟨by rfl, ?_⟩, ?_⟩; · (intro w0; first | (exact rn_build #[.int .i64 1, .slice Am m.length cm, .slice none 0 0, U t] rfl (by simp only [List.map_cons, List.map_nil, Act.eval, Act.put, List.setIfInBounds_toArray, List.set_cons_succ, List.set_cons_zero, gd_s, gd_0, U_cells, Value.cells]; exact rfl) (by kernel_rfl)) | (go_simp; try with_reducible rfl)))
      try simp only [Act.put, List.setIfInBounds_toArray, List.set_cons_succ, List.set_cons_zero]
      (refine takeE (i := 4) (oi := { dst := some 24, op := Op.load 57 (Operand.tmp 23), type := 57, pos := "mac.go:80", after := #[{ on := 3, ground := Ground.data }], guard := none }) (N := some 24) #[true, true, true, true, true, true, false, true, false, false, false, false, false, false] rfl rfl (by kernel_rfl) (fun _ _ _ _ h => h) hS ?_; apply Exists.intro; refine ⟨Or.inl ⟨by rfl, ?_⟩, ?_⟩; · (intro w0 h; first | (exact rn_satLd1 rfl h 0 rfl rfl (by decide +kernel) (by simp only [List.getElem?_toArray, List.getElem?_cons_succ, List.getElem?_cons_zero]; exact rfl)) | (exact rn_satLd1 rfl h 1 rfl rfl (by decide +kernel) (by simp only [List.getElem?_toArray, List.getElem?_cons_succ, List.getElem?_cons_zero]; exact rfl)) | (exact rn_satLd1 rfl h 2 rfl rfl (by decide +kernel) (by simp only [List.getElem?_toArray, List.getElem?_cons_succ, List.getElem?_cons_zero]; exact rfl)) | (exact rn_satLd1 rfl h 3 rfl rfl (by decide +kernel) (by simp only [List.getElem?_toArray, List.getElem?_cons_succ, List.getElem?_cons_zero]; exact rfl)) | (exact rn_satLd1 rfl h 4 rfl rfl (by decide +kernel) (by simp only [List.getElem?_toArray, List.getElem?_cons_succ, List.getElem?_cons_zero]; exact rfl)) | (exact rn_satLd1 rfl h 5 rfl rfl (by decide +kernel) (by simp only [List.getElem?_toArray, List.getElem?_cons_succ, List.getElem?_cons_zero]; exact rfl)) | (exact rn_satLd1 rfl h 6 rfl rfl (by decide +kernel) (by simp only [List.getElem?_toArray, List.getElem?_cons_succ, List.getElem?_cons_zero]; exact rfl)) | (exact rn_satLd1 rfl h 7 rfl rfl (by decide +kernel) (by simp only [List.getElem?_toArray, List.getElem?_cons_succ, List.getElem?_cons_zero]; exact rfl)) | (exact rn_satLdA rfl h 0 rfl rfl (by kernel_rfl)) | (exact rn_satLdA rfl h 1 rfl rfl (by kernel_rfl)) | (exact rn_satLdA rfl h 2 rfl rfl (by kernel_rfl)) | (exact rn_satLdA rfl h 3 rfl rfl (by kernel_rfl)) | (exact rn_satLdA rfl h 4 rfl rfl (by kernel_rfl)) | (exact rn_satLdA rfl h 5 rfl rfl (by kernel_rfl)) | (exact rn_satLdA rfl h 6 rfl rfl (by kernel_rfl)) | (exact rn_satLdA rfl h 7 rfl rfl (by kernel_rfl)) | (exact rn_rowLd1 rfl h 0 rfl rfl (by decide +kernel) _ (by assumption)) | (exact rn_rowLd1 rfl h 1 rfl rfl (by decide +kernel) _ (by assumption)) | (exact rn_rowLd1 rfl h 2 rfl rfl (by decide +kernel) _ (by assumption)) | (exact rn_rowLd1 rfl h 3 rfl rfl (by decide +kernel) _ (by assumption)) | (exact rn_rowLd1 rfl h 4 rfl rfl (by decide +kernel) _ (by assumption)) | (exact rn_rowLd1 rfl h 5 rfl rfl (by decide +kernel) _ (by assumption)) | (exact rn_rowLd1 rfl h 6 rfl rfl (by decide +kernel) _ (by assumption)) | (exact rn_rowLd1 rfl h 7 rfl rfl (by decide +kernel) _ (by assumption)) | (go_simp; with_reducible rfl)))
      try simp only [Act.put, List.setIfInBounds_toArray, List.set_cons_succ, List.set_cons_zero]
      (refine one_ (i := 6) (oi := { dst := some 26, op := Op.call { callee := Callee.value (Operand.func 39), args := #[Operand.tmp 25], argTypes := #[24] }, type := 24, pos := "mac.go:80", after := #[{ on := 5, ground := Ground.data }], guard := none }) (N := some 26) #[true, true, true, true, true, true, true, true, false, false, false, false, false, false] rfl rfl (by kernel_rfl) (by decide) (fun K hK => ?_); rw [if_pos (by rfl)]; first | (refine wk_call 39 rfl (by kernel_rfl) ?_; simp only [List.map_toArray, List.map_cons, List.map_nil, Act.eval, gd_s, gd_0]; go_must (refine (clone_bytes hw (fun w' hs => HR.out w' hs.tail.tail.tail.tail.tail.tail) hm).mono ?_); clear hw; rintro e w ⟨vc, rfl, hw⟩; obtain ⟨Am, cm, rfl, _, _⟩ := Row_val hw 0 rfl; refine ⟨_, rfl, ?_⟩) | (refine wk_lit1 (el := 60) (sz := 4) (v := .agg #[.int .i64 1, .slice Am m.length cm, .slice none 0 0, U t]) hw rfl (by kernel_rfl) (by kernel_rfl) (by kernel_rfl) rfl (by omega) (by omega) ?_; clear hw; intro b1 w hw; (try simp only [List.set_cons_succ, List.set_cons_zero, List.setIfInBounds_toArray, Value.cells, List.eraseIdx_cons_succ, List.eraseIdx_cons_zero] at hw)))
      refine hK.out _ _ (Sat.gets hw (by repeat (first | exact Gets.nil | exact Gets.refl _ | refine Gets.get 0 rfl ?_ | refine Gets.get 1 rfl ?_ | refine Gets.get 2 rfl ?_ | refine Gets.get 3 rfl ?_ | refine Gets.get 4 rfl ?_ | refine Gets.get 5 rfl ?_ | refine Gets.get 6 rfl ?_ | refine Gets.get 7 rfl ?_ | refine Gets.get 8 rfl ?_ | refine Gets.get 9 rfl ?_ | refine Gets.drop ?_))) (fun hS => ?_); clear hK K; try simp only [Act.put, List.setIfInBounds_toArray, List.set_cons_succ, List.set_cons_zero]
      (refine pureE (i := 8) (oi := { dst := some 28, op := Op.build 60 #[(0, Operand.const (Value.int IntKind.i64 1)), (1, Operand.tmp 26), (3, Operand.tmp 27)], type := 60, pos := "mac.go:80", after := #[{ on := 6, ground := Ground.data }, { on := 7, ground := Ground.data }], guard := none }) (N := some 28) #[true, true, true, true, true, true, true, true, true, false, false, false, false, false] rfl rfl (by kernel_rfl) (fun _ _ _ _ h => h) ?_; apply Exists.intro; refine ⟨Or.inl ⟨by rfl, ?_⟩, ?_⟩; · (intro w0; first | (exact rn_build #[.int .i64 1, .slice Am m.length cm, .slice none 0 0, U t] rfl (by simp only [List.map_cons, List.map_nil, Act.eval, Act.put, List.setIfInBounds_toArray, List.set_cons_succ, List.set_cons_zero, gd_s, gd_0, U_cells, Value.cells]; exact rfl) (by kernel_rfl)) | (go_simp; try with_reducible rfl)))
      try simp only [Act.put, List.setIfInBounds_toArray, List.set_cons_succ, List.set_cons_zero]
      (refine one_ (i := 9) (oi := { dst := some 29, op := Op.buildSlice 57 1 #[(0, Operand.tmp 28)], type := 57, pos := "mac.go:80", after := #[{ on := 8, ground := Ground.data }], guard := none }) (N := some 29) #[true, true, true, true, true, true, true, true, true, true, false, false, false, false] rfl rfl (by kernel_rfl) (by decide) (fun K hK => ?_); rw [if_pos (by rfl)]; first | (refine wk_call 39 rfl (by kernel_rfl) ?_; simp only [List.map_toArray, List.map_cons, List.map_nil, Act.eval, gd_s, gd_0]; go_must (refine (clone_bytes hw (fun w' hs => HR.out w' hs.tail.tail.tail.tail.tail.tail) hm).mono ?_); clear hw; rintro e w ⟨vc, rfl, hw⟩; obtain ⟨Am, cm, rfl, _, _⟩ := Row_val hw 0 rfl; refine ⟨_, rfl, ?_⟩) | (refine wk_lit1 (el := 60) (sz := 4) (v := .agg #[.int .i64 1, .slice Am m.length cm, .slice none 0 0, U t]) hw rfl (by kernel_rfl) (by kernel_rfl) (by kernel_rfl) rfl (by omega) (by omega) ?_; clear hw; intro b1 w hw; (try simp only [List.set_cons_succ, List.set_cons_zero, List.setIfInBounds_toArray, Value.cells, List.eraseIdx_cons_succ, List.eraseIdx_cons_zero] at hw)))
      refine hK.out _ _ (Sat.gets hw (by repeat (first | exact Gets.nil | exact Gets.refl _ | refine Gets.get 0 rfl ?_ | refine Gets.get 1 rfl ?_ | refine Gets.get 2 rfl ?_ | refine Gets.get 3 rfl ?_ | refine Gets.get 4 rfl ?_ | refine Gets.get 5 rfl ?_ | refine Gets.get 6 rfl ?_ | refine Gets.get 7 rfl ?_ | refine Gets.get 8 rfl ?_ | refine Gets.get 9 rfl ?_ | refine Gets.drop ?_))) (fun hS => ?_); clear hK K; try simp only [Act.put, List.setIfInBounds_toArray, List.set_cons_succ, List.set_cons_zero]
      (refine last_ (i := 10) (oi := { dst := some 30, op := Op.call { callee := Callee.builtin Builtin.append, args := #[Operand.tmp 24, Operand.tmp 29], argTypes := #[57, 57] }, type := 57, pos := "mac.go:80", after := #[{ on := 4, ground := Ground.data }, { on := 9, ground := Ground.data }, { on := 6, ground := Ground.chain }], guard := none }) (N := some 30) #[true, true, true, true, true, true, true, true, true, true, true, false, false, false] rfl rfl (by kernel_rfl) (by decide) (fun K hK => ?_); rw [if_pos (by rfl)]; first | (refine wk_append hw 4 rfl rfl rfl (Rd_blk hw 0 rfl (n := 1) (Nat.le_refl _) [.int .i64 1, .slice Am m.length cm, .slice none 0 0, U t] rfl rfl) u_bads bad_info rfl (by omega) (one_bad rfl rfl) (by simp only [maxLen]; omega) (by omega) ?_; clear hw; intro vv w hw hv; clear hv; (try simp only [List.set_cons_succ, List.set_cons_zero, List.setIfInBounds_toArray, Value.cells, List.eraseIdx_cons_succ, List.eraseIdx_cons_zero] at hw); obtain ⟨A5, c5, rfl, _, _⟩ := Row_val hw 4 rfl) | (refine wk_store1 hw rfl 2 rfl (.slice A5 _ c5) rfl (by decide +kernel) (by simp) rfl ?_; clear hw; intro w hw; (try simp only [List.set_cons_succ, List.set_cons_zero, List.setIfInBounds_toArray, Value.cells, List.eraseIdx_cons_succ, List.eraseIdx_cons_zero] at hw)))
      refine hK.out _ _ ?_; clear hK K; try simp only [Act.put, List.setIfInBounds_toArray, List.set_cons_succ, List.set_cons_zero]
      (refine pureE (i := 11) (oi := { dst := some 31, op := Op.nilCheck (Operand.tmp 20), type := 0, pos := "mac.go:80", after := #[{ on := 0, ground := Ground.data }, { on := 0, ground := Ground.phase }, { on := 1, ground := Ground.phase }, { on := 2, ground := Ground.phase }, { on := 3, ground := Ground.phase }, { on := 4, ground := Ground.phase }, { on := 5, ground := Ground.phase }, { on := 6, ground := Ground.phase }, { on := 7, ground := Ground.phase }, { on := 8, ground := Ground.phase }, { on := 9, ground := Ground.phase }, { on := 10, ground := Ground.phase }], guard := none }) (N := some 31) #[true, true, true, true, true, true, true, true, true, true, true, true, false, false] rfl rfl (by kernel_rfl) (fun _ _ _ _ h => h) ?_; apply Exists.intro; refine ⟨Or.inl ⟨by rfl, ?_⟩, ?_⟩; · (intro w0; first | (exact rn_build #[.int .i64 1, .slice Am m.length cm, .slice none 0 0, U t] rfl (by simp only [List.map_cons, List.map_nil, Act.eval, Act.put, List.setIfInBounds_toArray, List.set_cons_succ, List.set_cons_zero, gd_s, gd_0, U_cells, Value.cells]; exact rfl) (by kernel_rfl)) | (go_simp; try with_reducible rfl)))
      try simp only [Act.put, List.setIfInBounds_toArray, List.set_cons_succ, List.set_cons_zero]
      (refine pureE (i := 12) (oi := { dst := some 32, op := Op.fieldAddr 79 (Operand.tmp 31) 4, type := 0, pos := "mac.go:80", after := #[{ on := 11, ground := Ground.data }, { on := 0, ground := Ground.phase }, { on := 1, ground := Ground.phase }, { on := 2, ground := Ground.phase }, { on := 3, ground := Ground.phase }, { on := 4, ground := Ground.phase }, { on := 5, ground := Ground.phase }, { on := 6, ground := Ground.phase }, { on := 7, ground := Ground.phase }, { on := 8, ground := Ground.phase }, { on := 9, ground := Ground.phase }, { on := 10, ground := Ground.phase }], guard := none }) (N := some 32) #[true, true, true, true, true, true, true, true, true, true, true, true, true, false] rfl rfl (by kernel_rfl) (fun _ _ _ _ h => h) ?_; apply Exists.intro; refine ⟨Or.inl ⟨by rfl, ?_⟩, ?_⟩; · (intro w0; first | (exact rn_build #[.int .i64 1, .slice Am m.length cm, .slice none 0 0, U t] rfl (by simp only [List.map_cons, List.map_nil, Act.eval, Act.put, List.setIfInBounds_toArray, List.set_cons_succ, List.set_cons_zero, gd_s, gd_0, U_cells, Value.cells]; exact rfl) (by kernel_rfl)) | (go_simp; try with_reducible rfl)))
      try simp only [Act.put, List.setIfInBounds_toArray, List.set_cons_succ, List.set_cons_zero]
      (refine last_ (i := 13) (oi := { dst := none, op := Op.store 57 (Operand.tmp 32) (Operand.tmp 30), type := 0, pos := "mac.go:80", after := #[{ on := 12, ground := Ground.data }, { on := 10, ground := Ground.data }, { on := 10, ground := Ground.chain }, { on := 0, ground := Ground.phase }, { on := 1, ground := Ground.phase }, { on := 2, ground := Ground.phase }, { on := 3, ground := Ground.phase }, { on := 4, ground := Ground.phase }, { on := 5, ground := Ground.phase }, { on := 6, ground := Ground.phase }, { on := 7, ground := Ground.phase }, { on := 8, ground := Ground.phase }, { on := 9, ground := Ground.phase }, { on := 10, ground := Ground.phase }], guard := none }) (N := none) #[true, true, true, true, true, true, true, true, true, true, true, true, true, true] rfl rfl (by kernel_rfl) (by decide) (fun K hK => ?_); rw [if_pos (by rfl)]; first | (refine wk_append hw 4 rfl rfl rfl (Rd_blk hw 0 rfl (n := 1) (Nat.le_refl _) [.int .i64 1, .slice Am m.length cm, .slice none 0 0, U t] rfl rfl) u_bads bad_info rfl (by omega) (one_bad rfl rfl) (by simp only [maxLen]; omega) (by omega) ?_; clear hw; intro vv w hw hv; clear hv; (try simp only [List.set_cons_succ, List.set_cons_zero, List.setIfInBounds_toArray, Value.cells, List.eraseIdx_cons_succ, List.eraseIdx_cons_zero] at hw); obtain ⟨A5, c5, rfl, _, _⟩ := Row_val hw 4 rfl) | (refine wk_store1 hw rfl 2 rfl (.slice A5 _ c5) rfl (by decide +kernel) (by simp) rfl ?_; clear hw; intro w hw; (try simp only [List.set_cons_succ, List.set_cons_zero, List.setIfInBounds_toArray, Value.cells, List.eraseIdx_cons_succ, List.eraseIdx_cons_zero] at hw)))
      refine hK.out _ _ ?_; clear hK K; try simp only [Act.put, List.setIfInBounds_toArray, List.set_cons_succ, List.set_cons_zero]
      refine done_ (by kernel_rfl) ?_; clear hS
      go_wp2
      go_ret
      replace hw := hw.tail
      obtain ⟨h2', hle2, hrd2, hw⟩ := Row_arcAt hw 0 5 rfl rfl
      (try simp only [List.set_cons_succ, List.set_cons_zero, List.setIfInBounds_toArray, Value.cells, List.eraseIdx_cons_succ, List.eraseIdx_cons_zero] at hw)
      have okf := (ok.mono hle2).bad (d := ⟨1, m, [], t⟩) hrd2 (RdP.nil _ _)
      rw [show [Value.int .i64 1, Value.slice Am m.length cm, .slice none 0 0, U t] = [Value.int .i64 (Bd.mk 1 m [] t).kind, Value.slice Am m.length cm, .slice none 0 0, U (Bd.mk 1 m [] t).tag] from rfl, bcells_push bl _ _ (Bd.mk 1 m [] t)] at hw
      rw [show bl.length + 1 = (bl ++ [((Value.slice Am m.length cm, Value.slice none 0 0), Bd.mk 1 m [] t)]).length from by simp] at hw
      rw [e1.out]
      exact ⟨rfl, Book_shut okf (Sat.gets hw (by repeat (first | exact Gets.nil | exact Gets.refl _ | refine Gets.get 0 rfl ?_ | refine Gets.get 1 rfl ?_ | refine Gets.get 2 rfl ?_ | refine Gets.get 3 rfl ?_ | refine Gets.get 4 rfl ?_ | refine Gets.get 5 rfl ?_ | refine Gets.get 6 rfl ?_ | refine Gets.get 7 rfl ?_ | refine Gets.get 8 rfl ?_ | refine Gets.get 9 rfl ?_ | refine Gets.drop ?_)))⟩
theorem mac_tag {v : Value} {m : List UInt8} (hw : Sat E w (Book b s :: F)) (hR : ∀ w', Sat E w' F → Rd w' 1 v m.length (ybs m)) (hm : m.length ≤ 1000000) (hn : s.ms.length ≤ 100000) (hn2 : s.bs.length ≤ 100000) (hml : ∀ x ∈ s.ms, x.msg.length ≤ 1000000) :
    Calls Try.prog 24 #[.pointer (some ⟨b, 0, none⟩), v] w fun e w' => e = .returned (U (s.tagR m)) ∧ Sat E w' (Book b (s.tagS m) :: F) := by
  cases hi : idx s.ms m with
  | none => exact mac_tag_new hw hR hi hm hn hn2 hml
  | some i => exact mac_tag_old hw hR hi
end
end Go.Proofs.Ytidkfjgelcpieaa
