/- The document's log: End, Done, Same. Conditions: none. -/
import Derived.Test.YtbkfhieadnfndaaTrR
import Derived.Test.YtbkfhieadnfndaaAuto
set_option linter.unusedVariables false
set_option linter.unusedSimpArgs false
namespace Go.Proofs.Ytbkfhieadnfndaa
open Go.RowKit Go.Bst Go.MapKept Go.Proofs.YtbkfhieadnfndaaW.PrintLast
attribute [local irreducible] wpList Calls Code.wp Code.wpN Oper.wp Go.Proofs.YtbkfhieadnfndaaW.PrintLast.wpAnyLast

theorem turnOf_snoc {ended : List Nat} {i j : Nat} (hni : i ∉ ended) : turnOf (ended ++ [i]) j = if j = i then ended.length + 1 else turnOf ended j := by
  have key : (ended ++ [i]).idxOf? j = (ended.idxOf? j).or (if j = i then some ended.length else none) := by
    unfold List.idxOf?
    rw [List.findIdx?_append]
    by_cases q : j = i
    · subst q; simp [List.findIdx?_cons]
    · simp [List.findIdx?_cons, q, Ne.symm q]
  unfold turnOf
  rw [key]
  by_cases q : j = i
  · subst q
    rw [List.idxOf?_eq_none_iff.2 hni]; simp
  · simp [q]
theorem turns_end {n : Nat} {ended : List Nat} {i : Nat} (hni : i ∉ ended) (hi : i < n) : (ints (turns n ended)).set i (.int .i64 ((ended.length : Int) + 1)) = ints (turns n (ended ++ [i])) := by
  unfold ints turns
  apply List.ext_getElem?
  intro j
  rw [List.getElem?_set]
  simp only [List.getElem?_map, List.length_map, List.length_range]
  by_cases q : i = j
  · subst q
    rw [if_pos rfl, if_pos hi, List.getElem?_range hi]
    simp [turnOf_snoc hni]
  · rw [if_neg q]
    by_cases hj : j < n
    · rw [List.getElem?_range hj]; simp [turnOf_snoc hni, Ne.symm q]
    · rw [List.getElem?_eq_none (by simp; omega)]; rfl
set_option maxRecDepth 100000 in
set_option maxHeartbeats 1000000 in
theorem ent_same {w : World} {l m : List (Array Value)} {u v : Value} (ru : Rd w 10 u l.length (flat l)) (rv : Rd w 10 v m.length (flat m)) (hl : ∀ x ∈ l, fitAll entK x.toList) (hm : ∀ x ∈ m, fitAll entK x.toList) (hb : l.length ≤ 1000000000) :
    Calls Try.prog 32 #[u, v] w fun e w' => e = .returned (.bool (sameL l m)) ∧ ∃ n, w' = w.drewN n := by
  obtain ⟨A, c, rfl, ac⟩ := ru.form
  obtain ⟨B, d, rfl, bc⟩ := rv.form
  by_cases hne : l.length = m.length
  · have HE := Kp.mk hne
    have hbn : (l.length != m.length) = false := by simp [hne]
    have hbn' : ((l.length : Int) != (m.length : Int)) = false := by simp [hne]
    clear hne
    go_enter Try.func32, Try.ntmps32
    go_wp2
    go_loopw [5] (fun i wr => ∃ k n : Nat, k ≤ l.length ∧ i = .int .i64 k ∧ l.take k = m.take k ∧ wr = w.drewN n) (fun i _ => l.length - (intOf i).toNat)
    case atStart => exact ⟨0, 0, by omega, rfl, by simp, rfl⟩
    case round =>
      obtain ⟨k, n0, hk, rfl, HT, rfl⟩ := hrel
      have HT := Kp.mk HT
      have HE' := HE.out
      by_cases hlt : k < l.length
      · have hkm : k < m.length := by omega
        obtain ⟨ad, rfl, hca⟩ := ru.addr (by omega)
        obtain ⟨bd, rfl, hcb⟩ := rv.addr (by omega)
        have ca := cells_at hca (fun x hx => fits_size (hl x hx)) (List.getElem?_eq_getElem hlt)
        have cb := cells_at hcb (fun x hx => fits_size (hm x hx)) (List.getElem?_eq_getElem hkm)
        have s1 : l[k].size = 10 := fits_size (hl l[k] (by simp))
        have s2 : m[k].size = 10 := fits_size (hm m[k] (by simp))
        have f1 := hl l[k] (by simp)
        have f2 := hm m[k] (by simp)
        have hk0 : ((k : Int)).toNat = k := by omega
        clear hca hcb ru rv hl hm HE'
        have CA := Kp.mk ca
        have CB := Kp.mk cb
        clear ca cb
        have ii : ((k : Int) + 1) ≤ 9223372036854775807 := by omega
        by_cases heq : l[k] = m[k]
        · have hs : (!same l[k] m[k]) = false := by rw [same_iff.2 heq]; rfl
          have hs := Kp.mk hs
          have heq := Kp.mk heq
          go_wp2_with fail
          (refine wp_region_quiet_lit (by kernel_rfl) (by kernel_rfl) ?_; (repeat (first | go_big_quiet_skip | (go_big_quiet_want; (first | (refine qk_index (A := some ad) (sz := 10) (el := 67) rfl rfl rfl (by kernel_rfl) (by kernel_rfl) rfl (by omega) (by omega) ?_; simp only [Act.put, List.setIfInBounds_toArray, List.set_cons_succ, List.set_cons_zero]) | (refine qk_index (A := some bd) (sz := 10) (el := 67) rfl rfl rfl (by kernel_rfl) (by kernel_rfl) rfl (by omega) (by omega) ?_; simp only [Act.put, List.setIfInBounds_toArray, List.set_cons_succ, List.set_cons_zero]) | (refine qk_ldA (m := l[k]) (ad := ad.add (k * 10)) rfl rfl (by rw [ent_agg, s1]) CA.out ?_; simp only [Act.put, List.setIfInBounds_toArray, List.set_cons_succ, List.set_cons_zero]) | (refine qk_ldA (m := m[k]) (ad := bd.add (k * 10)) rfl rfl (by rw [ent_agg, s2]) CB.out ?_; simp only [Act.put, List.setIfInBounds_toArray, List.set_cons_succ, List.set_cons_zero]) | (refine qk_neq rfl l[k] m[k] rfl rfl ent_kinds (by omega) (by rw [ent_agg]; simp) (by kernel_rfl) f1 f2 _ hs.out ?_; simp only [Act.put, List.setIfInBounds_toArray, List.set_cons_succ, List.set_cons_zero]) | go_big_quiet_op); go_big_quiet_on))); refine wpQuiet_nil ?_; rintro _ ⟨nq, rfl⟩)
          go_wp2
          go_roundw
          case rel => exact ⟨k + 1, n0 + nq, by omega, by go_num, by rw [List.take_succ_eq_append_getElem hlt, List.take_succ_eq_append_getElem hkm, HT.out, heq.out], rfl⟩
          case measure => simp [intOf]; omega
        · have hs : (!same l[k] m[k]) = true := by rw [same_not heq]; rfl
          have hs := Kp.mk hs
          have hfin : sameL l m = false := sameL_no (fun e => heq (by subst e; rfl))
          have hfin := Kp.mk hfin
          have heq := Kp.mk heq
          go_wp2_with fail
          (refine wp_region_quiet_lit (by kernel_rfl) (by kernel_rfl) ?_; (repeat (first | go_big_quiet_skip | (go_big_quiet_want; (first | (refine qk_index (A := some ad) (sz := 10) (el := 67) rfl rfl rfl (by kernel_rfl) (by kernel_rfl) rfl (by omega) (by omega) ?_; simp only [Act.put, List.setIfInBounds_toArray, List.set_cons_succ, List.set_cons_zero]) | (refine qk_index (A := some bd) (sz := 10) (el := 67) rfl rfl rfl (by kernel_rfl) (by kernel_rfl) rfl (by omega) (by omega) ?_; simp only [Act.put, List.setIfInBounds_toArray, List.set_cons_succ, List.set_cons_zero]) | (refine qk_ldA (m := l[k]) (ad := ad.add (k * 10)) rfl rfl (by rw [ent_agg, s1]) CA.out ?_; simp only [Act.put, List.setIfInBounds_toArray, List.set_cons_succ, List.set_cons_zero]) | (refine qk_ldA (m := m[k]) (ad := bd.add (k * 10)) rfl rfl (by rw [ent_agg, s2]) CB.out ?_; simp only [Act.put, List.setIfInBounds_toArray, List.set_cons_succ, List.set_cons_zero]) | (refine qk_neq rfl l[k] m[k] rfl rfl ent_kinds (by omega) (by rw [ent_agg]; simp) (by kernel_rfl) f1 f2 _ hs.out ?_; simp only [Act.put, List.setIfInBounds_toArray, List.set_cons_succ, List.set_cons_zero]) | go_big_quiet_op); go_big_quiet_on))); refine wpQuiet_nil ?_; rintro _ ⟨nq, rfl⟩)
          go_wp2
          go_ret
          exact ⟨by rw [hfin.out]; rfl, n0 + nq, by rw [World.drewN_drewN]⟩
      · have hfin : sameL l m = true := by
          refine sameL_iff.2 ?_
          have := HT.out
          rw [List.take_of_length_le (by omega), List.take_of_length_le (by omega)] at this
          exact this
        have hfin := Kp.mk hfin
        have hge : l.length ≤ k := by omega
        clear HE'
        go_wp2
        go_ret
        exact ⟨by rw [hfin.out]; rfl, n0, rfl⟩
  · have hs : sameL l m = false := sameL_no (fun e => hne (by rw [e]))
    have hbn : ((l.length : Int) != (m.length : Int)) = true := by rw [bne_iff_ne]; omega
    have hs := Kp.mk hs
    go_enter Try.func32, Try.ntmps32
    go_wp2
    go_ret
    exact ⟨by rw [hs.out]; rfl, 0, rfl⟩
section
variable {E : Env} {w : World} {r : Nat} {cores : Int} {es : List Ent} {ended : List Nat} {F : List HP}
set_option maxRecDepth 100000 in
set_option maxHeartbeats 1600000 in
theorem ref_end {c at' res : Int} {i : Nat} {en : Ent} (hw : Sat E w (RLog r cores es ended :: F)) (hc : 0 ≤ c ∧ c < cores) (hi : openOf es c = some i) (hen : es[i]? = some en) (hni : i ∉ ended) (hl : es.length ≤ 1000000) (hel : ended.length ≤ 1000000) :
    Calls Try.prog 27 #[.pointer (some ⟨r, 0, none⟩), .int .i64 c, .int .u64 res, .int .i64 at'] w fun e w' => e = .returned (.int .i64 0) ∧ Sat E w' (RLog r cores (es.set i (en.fin res at')) (ended ++ [i]) :: F) := by
  obtain ⟨v1, v2, hw⟩ := RLog_open hw
  have hn : ¬ c < 0 := by omega
  have hge : (0 : Int) ≤ (i : Int) := by omega
  have hilt : i < es.length := (List.getElem?_eq_some_iff.1 hen).1
  obtain ⟨A1, c1, rfl, hc1, hg1⟩ := Row_val hw 1 rfl
  obtain ⟨g1, rfl⟩ := hg1 (by omega)
  obtain ⟨A2, c2, rfl, hc2, hg2⟩ := Row_val hw 2 rfl
  obtain ⟨g2, rfl⟩ := hg2 (by omega)
  clear hg1 hg2 hc1 hc2
  have Hni := Kp.mk (turns_end hni hilt)
  have hcells : (((cells es).set (i * 10 + 8) (.bool true)).set (i * 10 + 9) (.int .u64 res)).set (i * 10 + 7) (.int .i64 at') = cells (es.set i (en.fin res at')) := by
    have g1 : (es.set i { en with done := true })[i]? = some { en with done := true } := by rw [List.getElem?_set_self hilt]
    have g2 : (es.set i { en with done := true, res := res })[i]? = some { en with done := true, res := res } := by rw [List.getElem?_set_self hilt]
    rw [cells_set es i 8 en _ hen { en with done := true } (by omega) rfl, cells_set _ i 9 _ _ g1 { en with done := true, res := res } (by omega) rfl, List.set_set,
      cells_set _ i 7 _ (.int .i64 at') g2 (en.fin res at') (by omega) rfl, List.set_set]
  have Hcells := Kp.mk hcells
  clear hcells hni
  have hcl := cells_len es
  go_enter Try.func27, Try.ntmps27
  go_wp2_with (first
    | (refine wl_want (by rfl) (fun K hK => ?_); refine wk_load1 hw rfl 0 rfl (by kernel_rfl) (by simp only [List.getElem?_toArray, List.getElem?_cons_succ, List.getElem?_cons_zero]; exact rfl) ?_; refine hK _ _ ?_; clear hK K)
    | (go_at_call 31; go_must (refine (ref_open (k1 := 0) (k2 := 1) hw rfl rfl hl).mono ?_); rw [hi]; rintro e w1 ⟨rfl, e1⟩; replace e1 := e1.symm; subst e1; simp only [idxOr])
    | (refine wl_load1 hw rfl 0 rfl (by kernel_rfl) (by simp only [List.getElem?_toArray, List.getElem?_cons_succ, List.getElem?_cons_zero]; exact rfl) ?_)
    | (refine wl_store1 hw rfl 0 rfl (.int .i64 ((ended.length : Int) + 1)) rfl (by kernel_rfl) (by simp) rfl ?_; clear hw; intro w hw; (try simp only [List.set_cons_succ, List.set_cons_zero, List.setIfInBounds_toArray, Value.cells, List.eraseIdx_cons_succ, List.eraseIdx_cons_zero] at hw)))
  have hS0 := hw.gets (Gets.get 0 rfl (Gets.get 1 rfl Gets.nil))
  refine startS (ds := [10]) hS0 #[false, false, false, false, false, false, false, false, false, false, false] (by kernel_rfl) rfl (by rfl) ?_
  clear hS0; intro hS
  replace hw := hw.drew; generalize w.drew = w at hw hS ⊢
  (refine pureE (i := 0) (oi := { dst := some 32, op := Op.move (Operand.tmp 0), type := 52, pos := "ref.go:54", after := #[], guard := none }) (N := some 32) #[true, false, false, false, false, false, false, false, false, false, false] rfl rfl (by kernel_rfl) (fun _ _ _ _ h => h) ?_; apply Exists.intro; refine ⟨Or.inl ⟨by rfl, ?_⟩, ?_⟩; · (intro w0; go_simp; try with_reducible rfl))
  try simp only [Act.put, List.setIfInBounds_toArray, List.set_cons_succ, List.set_cons_zero]
  (refine pureE (i := 1) (oi := { dst := some 33, op := Op.nilCheck (Operand.tmp 32), type := 0, pos := "ref.go:54", after := #[{ on := 0, ground := Ground.data }], guard := none }) (N := some 33) #[true, true, false, false, false, false, false, false, false, false, false] rfl rfl (by kernel_rfl) (fun _ _ _ _ h => h) ?_; apply Exists.intro; refine ⟨Or.inl ⟨by rfl, ?_⟩, ?_⟩; · (intro w0; go_simp; try with_reducible rfl))
  try simp only [Act.put, List.setIfInBounds_toArray, List.set_cons_succ, List.set_cons_zero]
  (refine pureE (i := 2) (oi := { dst := some 34, op := Op.fieldAddr 56 (Operand.tmp 33) 2, type := 0, pos := "ref.go:54", after := #[{ on := 1, ground := Ground.data }], guard := none }) (N := some 34) #[true, true, true, false, false, false, false, false, false, false, false] rfl rfl (by kernel_rfl) (fun _ _ _ _ h => h) ?_; apply Exists.intro; refine ⟨Or.inl ⟨by rfl, ?_⟩, ?_⟩; · (intro w0; go_simp; try with_reducible rfl))
  try simp only [Act.put, List.setIfInBounds_toArray, List.set_cons_succ, List.set_cons_zero]
  (refine pureE (i := 4) (oi := { dst := some 36, op := Op.move (Operand.tmp 9), type := 3, pos := "ref.go:54", after := #[], guard := none }) (N := some 36) #[true, true, true, false, true, false, false, false, false, false, false] rfl rfl (by kernel_rfl) (fun _ _ _ _ h => h) ?_; apply Exists.intro; refine ⟨Or.inl ⟨by rfl, ?_⟩, ?_⟩; · (intro w0; go_simp; try with_reducible rfl))
  try simp only [Act.put, List.setIfInBounds_toArray, List.set_cons_succ, List.set_cons_zero]
  (refine pureE (i := 5) (oi := { dst := some 37, op := Op.move (Operand.tmp 0), type := 52, pos := "ref.go:54", after := #[], guard := none }) (N := some 37) #[true, true, true, false, true, true, false, false, false, false, false] rfl rfl (by kernel_rfl) (fun _ _ _ _ h => h) ?_; apply Exists.intro; refine ⟨Or.inl ⟨by rfl, ?_⟩, ?_⟩; · (intro w0; go_simp; try with_reducible rfl))
  try simp only [Act.put, List.setIfInBounds_toArray, List.set_cons_succ, List.set_cons_zero]
  (refine pureE (i := 6) (oi := { dst := some 38, op := Op.nilCheck (Operand.tmp 37), type := 0, pos := "ref.go:54", after := #[{ on := 5, ground := Ground.data }], guard := none }) (N := some 38) #[true, true, true, false, true, true, true, false, false, false, false] rfl rfl (by kernel_rfl) (fun _ _ _ _ h => h) ?_; apply Exists.intro; refine ⟨Or.inl ⟨by rfl, ?_⟩, ?_⟩; · (intro w0; go_simp; try with_reducible rfl))
  try simp only [Act.put, List.setIfInBounds_toArray, List.set_cons_succ, List.set_cons_zero]
  (refine pureE (i := 7) (oi := { dst := some 39, op := Op.fieldAddr 56 (Operand.tmp 38) 3, type := 0, pos := "ref.go:54", after := #[{ on := 6, ground := Ground.data }], guard := none }) (N := some 39) #[true, true, true, false, true, true, true, true, false, false, false] rfl rfl (by kernel_rfl) (fun _ _ _ _ h => h) ?_; apply Exists.intro; refine ⟨Or.inl ⟨by rfl, ?_⟩, ?_⟩; · (intro w0; go_simp; try with_reducible rfl))
  try simp only [Act.put, List.setIfInBounds_toArray, List.set_cons_succ, List.set_cons_zero]
  (refine takeE (i := 3) (oi := { dst := some 35, op := Op.load 54 (Operand.tmp 34), type := 54, pos := "ref.go:54", after := #[{ on := 2, ground := Ground.data }], guard := none }) (N := some 35) #[true, true, true, true, true, true, true, true, false, false, false] rfl rfl (by kernel_rfl) (fun _ _ _ _ h => h) hS ?_; apply Exists.intro; refine ⟨Or.inl ⟨by rfl, ?_⟩, ?_⟩; · (intro w0 h; first | (exact rn_satLd1 rfl h 0 rfl rfl (by kernel_rfl) (by simp only [List.getElem?_toArray, List.getElem?_cons_succ, List.getElem?_cons_zero]; exact rfl)) | (exact rn_satLd1 rfl h 1 rfl rfl (by kernel_rfl) (by simp only [List.getElem?_toArray, List.getElem?_cons_succ, List.getElem?_cons_zero]; exact rfl)) | (exact rn_satLdA rfl h 0 rfl rfl (by kernel_rfl)) | (exact rn_satLdA rfl h 1 rfl rfl (by kernel_rfl)) | (exact rn_rowLd1 rfl h 0 rfl rfl (by kernel_rfl) _ (by assumption)) | (exact rn_rowLd1 rfl h 1 rfl rfl (by kernel_rfl) _ (by assumption))))
  try simp only [Act.put, List.setIfInBounds_toArray, List.set_cons_succ, List.set_cons_zero]
  (refine takeE (i := 8) (oi := { dst := some 40, op := Op.load 3 (Operand.tmp 39), type := 3, pos := "ref.go:54", after := #[{ on := 7, ground := Ground.data }], guard := none }) (N := some 40) #[true, true, true, true, true, true, true, true, true, false, false] rfl rfl (by kernel_rfl) (fun _ _ _ _ h => h) hS ?_; apply Exists.intro; refine ⟨Or.inl ⟨by rfl, ?_⟩, ?_⟩; · (intro w0 h; first | (exact rn_satLd1 rfl h 0 rfl rfl (by kernel_rfl) (by simp only [List.getElem?_toArray, List.getElem?_cons_succ, List.getElem?_cons_zero]; exact rfl)) | (exact rn_satLd1 rfl h 1 rfl rfl (by kernel_rfl) (by simp only [List.getElem?_toArray, List.getElem?_cons_succ, List.getElem?_cons_zero]; exact rfl)) | (exact rn_satLdA rfl h 0 rfl rfl (by kernel_rfl)) | (exact rn_satLdA rfl h 1 rfl rfl (by kernel_rfl)) | (exact rn_rowLd1 rfl h 0 rfl rfl (by kernel_rfl) _ (by assumption)) | (exact rn_rowLd1 rfl h 1 rfl rfl (by kernel_rfl) _ (by assumption))))
  try simp only [Act.put, List.setIfInBounds_toArray, List.set_cons_succ, List.set_cons_zero]
  (refine takeE (i := 9) (oi := { dst := some 41, op := Op.indexAddr 54 (Operand.tmp 35) (Operand.tmp 36), type := 0, pos := "ref.go:54", after := #[{ on := 3, ground := Ground.data }, { on := 4, ground := Ground.data }, { on := 0, ground := Ground.phase }, { on := 1, ground := Ground.phase }, { on := 2, ground := Ground.phase }, { on := 3, ground := Ground.phase }, { on := 4, ground := Ground.phase }, { on := 5, ground := Ground.phase }, { on := 6, ground := Ground.phase }, { on := 7, ground := Ground.phase }, { on := 8, ground := Ground.phase }], guard := none }) (N := some 41) #[true, true, true, true, true, true, true, true, true, true, false] rfl rfl (by kernel_rfl) (fun _ _ _ _ h => h) hS ?_; apply Exists.intro; refine ⟨Or.inl ⟨by rfl, ?_⟩, ?_⟩; · (intro w0 h; first | (exact rn_rowIdx rfl h 0 rfl rfl _ _ (Nat.mul_one _) rfl (by kernel_rfl) (by kernel_rfl) (by omega)) | (exact rn_rowIdx rfl h 1 rfl rfl _ _ (Nat.mul_one _) rfl (by kernel_rfl) (by kernel_rfl) (by omega)) | (exact rn_rowIdx rfl h 0 rfl rfl _ _ rfl rfl (by kernel_rfl) (by kernel_rfl) (by omega)) | (exact rn_rowIdx rfl h 1 rfl rfl _ _ rfl rfl (by kernel_rfl) (by kernel_rfl) (by omega))))
  try simp only [Act.put, List.setIfInBounds_toArray, List.set_cons_succ, List.set_cons_zero]
  (refine last_ (i := 10) (oi := { dst := none, op := Op.store 3 (Operand.tmp 41) (Operand.tmp 40), type := 0, pos := "ref.go:54", after := #[{ on := 9, ground := Ground.data }, { on := 8, ground := Ground.data }, { on := 0, ground := Ground.phase }, { on := 1, ground := Ground.phase }, { on := 2, ground := Ground.phase }, { on := 3, ground := Ground.phase }, { on := 4, ground := Ground.phase }, { on := 5, ground := Ground.phase }, { on := 6, ground := Ground.phase }, { on := 7, ground := Ground.phase }, { on := 8, ground := Ground.phase }], guard := none }) (N := none) #[true, true, true, true, true, true, true, true, true, true, true] rfl rfl (by kernel_rfl) (by decide) (fun K hK => ?_); rw [if_pos (by rfl)]; first | (refine wk_rowStore1 (j := i) hw rfl rfl 2 rfl (by omega) (.int .i64 ((ended.length : Int) + 1)) rfl (by kernel_rfl) rfl ?_; clear hw; intro w hw; (try simp only [List.set_cons_succ, List.set_cons_zero, List.setIfInBounds_toArray, Value.cells, List.eraseIdx_cons_succ, List.eraseIdx_cons_zero] at hw)))
  refine hK.out _ _ ?_; clear hK K; try simp only [Act.put, List.setIfInBounds_toArray, List.set_cons_succ, List.set_cons_zero]
  refine done_ (by kernel_rfl) ?_; clear hS
  go_wp2_with (first
    | (refine wl_load1 hw rfl 0 rfl (by kernel_rfl) (by simp only [List.getElem?_toArray, List.getElem?_cons_succ, List.getElem?_cons_zero]; exact rfl) ?_)
    | (refine wl_rowIdx i (i * 10) rfl hw rfl rfl 1 rfl u_ents ent_size hilt ?_)
    | (refine wl_rowStore1 (j := i * 10 + 8) hw rfl rfl 1 rfl (by omega) (.bool true) rfl (by kernel_rfl) rfl ?_; clear hw; intro w hw; (try simp only [List.set_cons_succ, List.set_cons_zero, List.setIfInBounds_toArray, Value.cells, List.eraseIdx_cons_succ, List.eraseIdx_cons_zero] at hw))
    | (refine wl_rowStore1 (j := i * 10 + 9) hw rfl rfl 1 rfl (by omega) (.int .u64 res) rfl (by kernel_rfl) rfl ?_; clear hw; intro w hw; (try simp only [List.set_cons_succ, List.set_cons_zero, List.setIfInBounds_toArray, Value.cells, List.eraseIdx_cons_succ, List.eraseIdx_cons_zero] at hw))
    | (refine wl_rowStore1 (j := i * 10 + 7) hw rfl rfl 1 rfl (by omega) (.int .i64 at') rfl (by kernel_rfl) rfl ?_; clear hw; intro w hw; (try simp only [List.set_cons_succ, List.set_cons_zero, List.setIfInBounds_toArray, Value.cells, List.eraseIdx_cons_succ, List.eraseIdx_cons_zero] at hw)))
  go_ret
  rw [Hcells.out, Hni.out, show es.length = (es.set i (en.fin res at')).length from by simp, show (ended.length : Int) + 1 = ((ended ++ [i]).length : Nat) from by simp] at hw
  exact ⟨rfl, RLog_shut hw⟩
theorem turn_iff {ended : List Nat} (nd : ended.Nodup) {i k : Nat} : turnOf ended i = k + 1 ↔ ended[k]? = some i := by
  unfold turnOf
  cases h : ended.idxOf? i with
  | none =>
    constructor
    · intro q; exact absurd q (by simp)
    · intro q; exact absurd (List.mem_of_getElem? q) (List.idxOf?_eq_none_iff.1 h)
  | some j =>
    unfold List.idxOf? at h
    rw [List.findIdx?_eq_some_iff_getElem] at h
    obtain ⟨h1, h2, _⟩ := h
    have h2 : ended[j] = i := by simpa using h2
    have hj : ended[j]? = some i := by rw [List.getElem?_eq_getElem h1, h2]
    constructor
    · intro q
      have : j = k := by simpa using q
      subst this; exact hj
    · intro q
      have hk := (List.getElem?_eq_some_iff.1 q).1
      have := (List.getElem?_inj h1 nd).1 (hj.trans q.symm)
      subst this; rfl
def part (k n j : Nat) : Nat := if n < j then k + 1 else k
theorem part_0 (k n : Nat) : part k n 0 = k := by simp [part]
theorem part_at (k n : Nat) : part k n n = k := by simp [part]
theorem part_on (k n : Nat) : part k n (n + 1) = k + 1 := by simp [part]
theorem part_ne {k n j : Nat} (h : n ≠ j) : part k n (j + 1) = part k n j := by unfold part; congr 1; simp; omega
theorem part_all {k n j : Nat} (h : n < j) : part k n j = k + 1 := by simp [part, h]
theorem part_le (k n j : Nat) : part k n j ≤ k + 1 := by unfold part; split <;> omega
set_option maxRecDepth 100000 in
set_option maxHeartbeats 1600000 in
theorem ref_done {c' : Int} (hw : Sat E w (RLog r cores es ended :: F)) (hok : LogOk c' es ended) (hl : es.length ≤ 1000000) :
    Calls Try.prog 35 #[.pointer (some ⟨r, 0, none⟩)] w fun e w' => ∃ v, e = .returned v ∧ Sat E w' (Row 67 10 v ended.length (cells (doneOf es ended)) :: RLog r cores es ended :: F) := by
  obtain ⟨v1, v2, hw⟩ := RLog_open hw
  have hle := hok.le
  have Hok := Kp.mk hok
  clear hok
  obtain ⟨A1, c1, rfl, hc1, hg1⟩ := Row_val hw 1 rfl
  obtain ⟨A2, c2, rfl, hc2, hg2⟩ := Row_val hw 2 rfl
  go_enter Try.func35, Try.ntmps35
  go_wp2_with (refine wl_lit0 (el := 67) (sz := 10) hw (by kernel_rfl) (by kernel_rfl) ?_; clear hw; intro b w hw; (try simp only [List.set_cons_succ, List.set_cons_zero, List.setIfInBounds_toArray, Value.cells, List.eraseIdx_cons_succ, List.eraseIdx_cons_zero] at hw))
  go_loopw [3, 4, 5] (fun out t i wr => ∃ k : Nat, k ≤ ended.length ∧ t = .int .i64 ((k : Int) + 1) ∧ Sat E wr (Row 67 10 out k (cells (doneOf es (ended.take k))) :: pt r (.cells #[.int .i64 cores, .slice A1 es.length c1, .slice A2 es.length c2, .int .i64 ended.length] 56 (0, 0)) :: Row 67 10 (.slice A1 es.length c1) es.length (cells es) :: Row 3 1 (.slice A2 es.length c2) es.length (ints (turns es.length ended)) :: F)) (fun _ t _ _ => ended.length + 1 - (intOf t).toNat)
  case atStart => exact ⟨0, Nat.zero_le _, rfl, hw⟩
  case round =>
    clear hw
    obtain ⟨k, hk, rfl, hw⟩ := hrel
    by_cases hkl : k < ended.length
    · obtain ⟨n, hn⟩ : ∃ n, ended[k]? = some n := ⟨_, List.getElem?_eq_getElem hkl⟩
      have hnl := Hok.out.lt n (List.mem_of_getElem? hn)
      obtain ⟨en, hen⟩ : ∃ en, es[n]? = some en := ⟨_, List.getElem?_eq_getElem hnl⟩
      obtain ⟨g1, rfl⟩ := hg1 (by omega)
      obtain ⟨g2, rfl⟩ := hg2 (by omega)
      clear hg1 hg2
      have h1 : (k : Int) + 1 ≤ (ended.length : Int) := by omega
      have Hn := Kp.mk hn
      clear hn
      obtain ⟨wo, ewo⟩ : ∃ wo : World, wo = wr := ⟨_, rfl⟩
      subst ewo
      go_wp2_with (first | (refine wl_load1 hw rfl 0 rfl (by kernel_rfl) (by simp only [List.getElem?_toArray, List.getElem?_cons_succ, List.getElem?_cons_zero]; exact rfl) ?_) | (refine wl_load1 hw rfl 1 rfl (by kernel_rfl) (by simp only [List.getElem?_toArray, List.getElem?_cons_succ, List.getElem?_cons_zero]; exact rfl) ?_) | (refine wl_load1 hw rfl 2 rfl (by kernel_rfl) (by simp only [List.getElem?_toArray, List.getElem?_cons_succ, List.getElem?_cons_zero]; exact rfl) ?_) | (refine wl_load1 hw rfl 3 rfl (by kernel_rfl) (by simp only [List.getElem?_toArray, List.getElem?_cons_succ, List.getElem?_cons_zero]; exact rfl) ?_) | (refine wl_load1 hw rfl 4 rfl (by kernel_rfl) (by simp only [List.getElem?_toArray, List.getElem?_cons_succ, List.getElem?_cons_zero]; exact rfl) ?_) | (refine wl_load1 hw rfl 5 rfl (by kernel_rfl) (by simp only [List.getElem?_toArray, List.getElem?_cons_succ, List.getElem?_cons_zero]; exact rfl) ?_) | (refine wl_load1 hw rfl 6 rfl (by kernel_rfl) (by simp only [List.getElem?_toArray, List.getElem?_cons_succ, List.getElem?_cons_zero]; exact rfl) ?_) | (refine wl_load1 hw rfl 7 rfl (by kernel_rfl) (by simp only [List.getElem?_toArray, List.getElem?_cons_succ, List.getElem?_cons_zero]; exact rfl) ?_))
      go_loopw [3, 5] (fun out i wr => ∃ j : Nat, j ≤ es.length ∧ i = .int .i64 j ∧ Sat E wr (Row 67 10 out (part k n j) (cells (doneOf es (ended.take (part k n j)))) :: pt r (.cells #[.int .i64 cores, .slice (some ⟨g1, 0, none⟩) es.length c1, .slice (some ⟨g2, 0, none⟩) es.length c2, .int .i64 ended.length] 56 (0, 0)) :: Row 67 10 (.slice (some ⟨g1, 0, none⟩) es.length c1) es.length (cells es) :: Row 3 1 (.slice (some ⟨g2, 0, none⟩) es.length c2) es.length (ints (turns es.length ended)) :: F)) (fun _ i _ => es.length - (intOf i).toNat)
      case atStart => exact ⟨0, by omega, rfl, by rw [part_0]; exact hw⟩
      case round =>
        clear hw
        obtain ⟨j, hj, rfl, hw⟩ := hrel
        by_cases hjl : j < es.length
        · have hjt : (ints (turns es.length ended))[j]? = some (.int .i64 (turnOf ended j)) := by
            simp [ints, turns, hjl]
          have h2 : (j : Int) < (es.length : Int) := by omega
          by_cases hnj : n = j
          · subst hnj
            have hb : ((turnOf ended n : Int) == (k : Int) + 1) = true := by rw [(turn_iff Hok.out.nd).2 Hn.out]; simp
            have hnext : Kp (cells (doneOf es (ended.take k)) ++ en.cs.toList = cells (doneOf es (ended.take (k + 1)))) := Kp.mk (by
              rw [← cells_one, ← cells_app]
              congr 1
              rw [List.take_add_one, Hn.out]; simp [doneOf, hen])
            rw [part_at] at hw
            obtain ⟨A3, c3, rfl, hc3, hg3⟩ := Row_val hw 0 rfl
            clear hg3
            go_wp2_with (first
              | (refine wl_rowIdx n n (Nat.mul_one n) hw rfl rfl 3 rfl u_ints int_size hnl ?_)
              | (refine wl_rowIdx n (n * 10) rfl hw rfl rfl 2 rfl u_ents ent_size hnl ?_)
              | (refine wl_rowLd1 (j := n) hw rfl rfl 3 rfl (by kernel_rfl) _ hjt ?_)
              | (refine wl_rowLdA (j := n * 10) hw rfl rfl 2 rfl en.cs ent_agg (cells_get hen) ?_)
              | (first | (refine wl_load1 hw rfl 0 rfl (by kernel_rfl) (by simp only [List.getElem?_toArray, List.getElem?_cons_succ, List.getElem?_cons_zero]; exact rfl) ?_) | (refine wl_load1 hw rfl 1 rfl (by kernel_rfl) (by simp only [List.getElem?_toArray, List.getElem?_cons_succ, List.getElem?_cons_zero]; exact rfl) ?_) | (refine wl_load1 hw rfl 2 rfl (by kernel_rfl) (by simp only [List.getElem?_toArray, List.getElem?_cons_succ, List.getElem?_cons_zero]; exact rfl) ?_) | (refine wl_load1 hw rfl 3 rfl (by kernel_rfl) (by simp only [List.getElem?_toArray, List.getElem?_cons_succ, List.getElem?_cons_zero]; exact rfl) ?_) | (refine wl_load1 hw rfl 4 rfl (by kernel_rfl) (by simp only [List.getElem?_toArray, List.getElem?_cons_succ, List.getElem?_cons_zero]; exact rfl) ?_) | (refine wl_load1 hw rfl 5 rfl (by kernel_rfl) (by simp only [List.getElem?_toArray, List.getElem?_cons_succ, List.getElem?_cons_zero]; exact rfl) ?_) | (refine wl_load1 hw rfl 6 rfl (by kernel_rfl) (by simp only [List.getElem?_toArray, List.getElem?_cons_succ, List.getElem?_cons_zero]; exact rfl) ?_) | (refine wl_load1 hw rfl 7 rfl (by kernel_rfl) (by simp only [List.getElem?_toArray, List.getElem?_cons_succ, List.getElem?_cons_zero]; exact rfl) ?_))
              | (refine wl_lit1 (el := 67) (sz := 10) hw (by simp only [Act.eval, Act.put, List.setIfInBounds_toArray, List.set_cons_succ, List.set_cons_zero, gd_s, gd_0, Value.cells]; exact rfl) (by kernel_rfl) (by kernel_rfl) (by kernel_rfl) rfl (by omega) (by omega) ?_; clear hw; intro b w hw; (try simp only [List.set_cons_succ, List.set_cons_zero, List.setIfInBounds_toArray, Value.cells, List.eraseIdx_cons_succ, List.eraseIdx_cons_zero] at hw))
              | (at_builtin; go_must (refine wl_append hw 1 rfl rfl rfl (Rd_blk hw 0 rfl (n := 1) (Nat.le_refl _) en.cs.toList rfl rfl) u_ents ent_info rfl (by omega) (Ent.mem _) (by simp only [maxLen]; omega) (by omega) ?_); clear hw; intro v w hw hv; clear hv; (try simp only [List.set_cons_succ, List.set_cons_zero, List.setIfInBounds_toArray, Value.cells, List.eraseIdx_cons_succ, List.eraseIdx_cons_zero] at hw)))
            rw [hnext.out] at hw
            go_roundw
            case rel => exact ⟨n + 1, by omega, by go_num, by rw [part_on]; exact hw.tail⟩
            case measure => simp [intOf]; omega
          · have hb : ((turnOf ended j : Int) == (k : Int) + 1) = false := by
              rw [beq_eq_false_iff_ne]
              intro q
              have := (turn_iff (k := k) (i := j) Hok.out.nd).1 (by omega)
              rw [Hn.out] at this; injection this with this; exact hnj this
            go_wp2_with (first
              | (refine wl_rowIdx j j (Nat.mul_one j) hw rfl rfl 3 rfl u_ints int_size hjl ?_)
              | (refine wl_rowLd1 (j := j) hw rfl rfl 3 rfl (by kernel_rfl) _ hjt ?_)
              | (first | (refine wl_load1 hw rfl 0 rfl (by kernel_rfl) (by simp only [List.getElem?_toArray, List.getElem?_cons_succ, List.getElem?_cons_zero]; exact rfl) ?_) | (refine wl_load1 hw rfl 1 rfl (by kernel_rfl) (by simp only [List.getElem?_toArray, List.getElem?_cons_succ, List.getElem?_cons_zero]; exact rfl) ?_) | (refine wl_load1 hw rfl 2 rfl (by kernel_rfl) (by simp only [List.getElem?_toArray, List.getElem?_cons_succ, List.getElem?_cons_zero]; exact rfl) ?_) | (refine wl_load1 hw rfl 3 rfl (by kernel_rfl) (by simp only [List.getElem?_toArray, List.getElem?_cons_succ, List.getElem?_cons_zero]; exact rfl) ?_) | (refine wl_load1 hw rfl 4 rfl (by kernel_rfl) (by simp only [List.getElem?_toArray, List.getElem?_cons_succ, List.getElem?_cons_zero]; exact rfl) ?_) | (refine wl_load1 hw rfl 5 rfl (by kernel_rfl) (by simp only [List.getElem?_toArray, List.getElem?_cons_succ, List.getElem?_cons_zero]; exact rfl) ?_) | (refine wl_load1 hw rfl 6 rfl (by kernel_rfl) (by simp only [List.getElem?_toArray, List.getElem?_cons_succ, List.getElem?_cons_zero]; exact rfl) ?_) | (refine wl_load1 hw rfl 7 rfl (by kernel_rfl) (by simp only [List.getElem?_toArray, List.getElem?_cons_succ, List.getElem?_cons_zero]; exact rfl) ?_)))
            go_roundw
            case rel => exact ⟨j + 1, by omega, by go_num, by rw [part_ne hnj]; exact hw⟩
            case measure => simp [intOf]; omega
        · obtain rfl : j = es.length := by omega
          rw [part_all hnl] at hw
          go_wp2_with (first | (refine wl_load1 hw rfl 0 rfl (by kernel_rfl) (by simp only [List.getElem?_toArray, List.getElem?_cons_succ, List.getElem?_cons_zero]; exact rfl) ?_) | (refine wl_load1 hw rfl 1 rfl (by kernel_rfl) (by simp only [List.getElem?_toArray, List.getElem?_cons_succ, List.getElem?_cons_zero]; exact rfl) ?_) | (refine wl_load1 hw rfl 2 rfl (by kernel_rfl) (by simp only [List.getElem?_toArray, List.getElem?_cons_succ, List.getElem?_cons_zero]; exact rfl) ?_) | (refine wl_load1 hw rfl 3 rfl (by kernel_rfl) (by simp only [List.getElem?_toArray, List.getElem?_cons_succ, List.getElem?_cons_zero]; exact rfl) ?_) | (refine wl_load1 hw rfl 4 rfl (by kernel_rfl) (by simp only [List.getElem?_toArray, List.getElem?_cons_succ, List.getElem?_cons_zero]; exact rfl) ?_) | (refine wl_load1 hw rfl 5 rfl (by kernel_rfl) (by simp only [List.getElem?_toArray, List.getElem?_cons_succ, List.getElem?_cons_zero]; exact rfl) ?_) | (refine wl_load1 hw rfl 6 rfl (by kernel_rfl) (by simp only [List.getElem?_toArray, List.getElem?_cons_succ, List.getElem?_cons_zero]; exact rfl) ?_) | (refine wl_load1 hw rfl 7 rfl (by kernel_rfl) (by simp only [List.getElem?_toArray, List.getElem?_cons_succ, List.getElem?_cons_zero]; exact rfl) ?_))
          go_roundw
          case rel => exact ⟨k + 1, by omega, by go_num, hw⟩
          case measure => simp [intOf]; omega
    · obtain rfl : k = ended.length := by omega
      have h1 : ¬ ((ended.length : Int) + 1 ≤ (ended.length : Int)) := by omega
      go_wp2_with (first | (refine wl_load1 hw rfl 0 rfl (by kernel_rfl) (by simp only [List.getElem?_toArray, List.getElem?_cons_succ, List.getElem?_cons_zero]; exact rfl) ?_) | (refine wl_load1 hw rfl 1 rfl (by kernel_rfl) (by simp only [List.getElem?_toArray, List.getElem?_cons_succ, List.getElem?_cons_zero]; exact rfl) ?_) | (refine wl_load1 hw rfl 2 rfl (by kernel_rfl) (by simp only [List.getElem?_toArray, List.getElem?_cons_succ, List.getElem?_cons_zero]; exact rfl) ?_) | (refine wl_load1 hw rfl 3 rfl (by kernel_rfl) (by simp only [List.getElem?_toArray, List.getElem?_cons_succ, List.getElem?_cons_zero]; exact rfl) ?_) | (refine wl_load1 hw rfl 4 rfl (by kernel_rfl) (by simp only [List.getElem?_toArray, List.getElem?_cons_succ, List.getElem?_cons_zero]; exact rfl) ?_) | (refine wl_load1 hw rfl 5 rfl (by kernel_rfl) (by simp only [List.getElem?_toArray, List.getElem?_cons_succ, List.getElem?_cons_zero]; exact rfl) ?_) | (refine wl_load1 hw rfl 6 rfl (by kernel_rfl) (by simp only [List.getElem?_toArray, List.getElem?_cons_succ, List.getElem?_cons_zero]; exact rfl) ?_) | (refine wl_load1 hw rfl 7 rfl (by kernel_rfl) (by simp only [List.getElem?_toArray, List.getElem?_cons_succ, List.getElem?_cons_zero]; exact rfl) ?_))
      go_ret
      rw [List.take_length] at hw
      exact ⟨_, rfl, (RLog_shut (((hw.front 3 rfl).front 3 rfl).front 3 rfl)).front 1 rfl⟩
end
end Go.Proofs.Ytbkfhieadnfndaa
