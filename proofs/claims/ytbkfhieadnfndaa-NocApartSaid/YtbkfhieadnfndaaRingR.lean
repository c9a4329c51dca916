/- What the document's queues do, function by function. Conditions: none. -/
import Derived.Test.YtbkfhieadnfndaaRing2
import Derived.Test.YtbkfhieadnfndaaLawsK
import Derived.Test.YtbkfhieadnfndaaRg
set_option linter.unusedVariables false
set_option linter.unusedSimpArgs false
namespace Go.Proofs.Ytbkfhieadnfndaa
open Go.RowKit Go.Bst
attribute [local irreducible] wpList Calls Code.wp Code.wpN Oper.wp Go.Proofs.YtbkfhieadnfndaaW.PrintLast.wpAnyLast

noncomputable def sameL (l m : List (Array Value)) : Bool := @decide (l = m) (Classical.propDecidable _)
theorem sameL_iff {l m : List (Array Value)} : sameL l m = true ↔ l = m := by unfold sameL; simp
theorem sameL_no {l m : List (Array Value)} (h : l ≠ m) : sameL l m = false := by
  cases e : sameL l m with
  | false => rfl
  | true => exact absurd (sameL_iff.1 e) h

set_option maxRecDepth 100000 in
set_option maxHeartbeats 1000000 in
theorem ref_same {w : World} {l m : List (Array Value)} {u v : Value} (ru : Rd w 38 u l.length (flat l)) (rv : Rd w 38 v m.length (flat m)) (hl : ∀ x ∈ l, Msg x) (hm : ∀ x ∈ m, Msg x) (hb : l.length ≤ 1000000000) :
    Calls Try.prog 18 #[u, v] w fun e w' => e = .returned (.bool (sameL l m)) ∧ ∃ n, w' = w.drewN n := by
  obtain ⟨A, c, rfl, ac⟩ := ru.form
  obtain ⟨B, d, rfl, bc⟩ := rv.form
  by_cases hne : l.length = m.length
  · have HE := Kp.mk hne
    have hbn : (l.length != m.length) = false := by simp [hne]
    have hbn' : ((l.length : Int) != (m.length : Int)) = false := by simp [hne]
    clear hne
    go_enter Try.func18, Try.ntmps18
    go_wp2
    go_loopw [5] (fun i wr => ∃ k n : Nat, k ≤ l.length ∧ i = .int .i64 k ∧ l.take k = m.take k ∧ wr = w.drewN n) (fun i _ => l.length - (intOf i).toNat)
    case atStart => exact ⟨0, 0, by omega, rfl, by simp, rfl⟩
    case round =>
      obtain ⟨k, n0, hk, rfl, HT, rfl⟩ := hrel
      have HT := Kp.mk HT
      have HE' := HE.out
      by_cases hlt : k < l.length
      · have hkm : k < m.length := by omega
        obtain ⟨ad, rfl, hca⟩ := ru.addr (by omega)
        obtain ⟨bd, rfl, hcb⟩ := rv.addr (by omega)
        have ca := cells_at hca (fun x hx => (hl x hx).size) (List.getElem?_eq_getElem hlt)
        have cb := cells_at hcb (fun x hx => (hm x hx).size) (List.getElem?_eq_getElem hkm)
        have s1 := (hl l[k] (by simp)).size
        have s2 := (hm m[k] (by simp)).size
        have f1 := hl l[k] (by simp)
        have f2 := hm m[k] (by simp)
        have hk0 : ((k : Int)).toNat = k := by omega
        clear hca hcb ru rv hl hm HE'
        have CA := Kp.mk ca
        have CB := Kp.mk cb
        clear ca cb
        have ii : ((k : Int) + 1) ≤ 9223372036854775807 := by omega
        by_cases heq : l[k] = m[k]
        · have hs : (!same l[k] m[k]) = false := by rw [same_iff.2 heq]; rfl
          have hs := Kp.mk hs
          have heq := Kp.mk heq
          go_wp2_with fail
          (refine wp_region_quiet_lit (by kernel_rfl) (by kernel_rfl) ?_; (repeat (first | go_big_quiet_skip | (go_big_quiet_want; (first | (refine qk_index (A := some ad) rfl rfl rfl u_msgs msg_size rfl (by omega) (by omega) ?_; simp only [Act.put, List.setIfInBounds_toArray, List.set_cons_succ, List.set_cons_zero]) | (refine qk_index (A := some bd) rfl rfl rfl u_msgs msg_size rfl (by omega) (by omega) ?_; simp only [Act.put, List.setIfInBounds_toArray, List.set_cons_succ, List.set_cons_zero]) | (refine qk_ldA (m := l[k]) (ad := ad.add (k * 38)) rfl rfl (by rw [msg_agg, s1]) CA.out ?_; simp only [Act.put, List.setIfInBounds_toArray, List.set_cons_succ, List.set_cons_zero]) | (refine qk_ldA (m := m[k]) (ad := bd.add (k * 38)) rfl rfl (by rw [msg_agg, s2]) CB.out ?_; simp only [Act.put, List.setIfInBounds_toArray, List.set_cons_succ, List.set_cons_zero]) | (refine qk_neq rfl l[k] m[k] rfl rfl msg_kinds (by omega) (by rw [msg_agg]; simp) (by kernel_rfl) f1 f2 _ hs.out ?_; simp only [Act.put, List.setIfInBounds_toArray, List.set_cons_succ, List.set_cons_zero]) | go_big_quiet_op); go_big_quiet_on))); refine wpQuiet_nil ?_; rintro _ ⟨nq, rfl⟩)
          go_wp2
          go_roundw
          case rel => exact ⟨k + 1, n0 + nq, by omega, by go_num, by rw [List.take_succ_eq_append_getElem hlt, List.take_succ_eq_append_getElem hkm, HT.out, heq.out], rfl⟩
          case measure => simp [intOf]; omega
        · have hs : (!same l[k] m[k]) = true := by rw [same_not heq]; rfl
          have hs := Kp.mk hs
          have hfin : sameL l m = false := sameL_no (fun e => heq (by subst e; rfl))
          have hfin := Kp.mk hfin
          have heq := Kp.mk heq
          go_wp2_with fail
          (refine wp_region_quiet_lit (by kernel_rfl) (by kernel_rfl) ?_; (repeat (first | go_big_quiet_skip | (go_big_quiet_want; (first | (refine qk_index (A := some ad) rfl rfl rfl u_msgs msg_size rfl (by omega) (by omega) ?_; simp only [Act.put, List.setIfInBounds_toArray, List.set_cons_succ, List.set_cons_zero]) | (refine qk_index (A := some bd) rfl rfl rfl u_msgs msg_size rfl (by omega) (by omega) ?_; simp only [Act.put, List.setIfInBounds_toArray, List.set_cons_succ, List.set_cons_zero]) | (refine qk_ldA (m := l[k]) (ad := ad.add (k * 38)) rfl rfl (by rw [msg_agg, s1]) CA.out ?_; simp only [Act.put, List.setIfInBounds_toArray, List.set_cons_succ, List.set_cons_zero]) | (refine qk_ldA (m := m[k]) (ad := bd.add (k * 38)) rfl rfl (by rw [msg_agg, s2]) CB.out ?_; simp only [Act.put, List.setIfInBounds_toArray, List.set_cons_succ, List.set_cons_zero]) | (refine qk_neq rfl l[k] m[k] rfl rfl msg_kinds (by omega) (by rw [msg_agg]; simp) (by kernel_rfl) f1 f2 _ hs.out ?_; simp only [Act.put, List.setIfInBounds_toArray, List.set_cons_succ, List.set_cons_zero]) | go_big_quiet_op); go_big_quiet_on))); refine wpQuiet_nil ?_; rintro _ ⟨nq, rfl⟩)
          go_wp2
          go_ret
          exact ⟨by rw [hfin.out]; rfl, n0 + nq, by rw [World.drewN_drewN]⟩
      · have hfin : sameL l m = true := by
          refine sameL_iff.2 ?_
          have := HT.out
          rw [List.take_of_length_le (by omega), List.take_of_length_le (by omega)] at this
          exact this
        have hfin := Kp.mk hfin
        have hge : l.length ≤ k := by omega
        clear HE'
        go_wp2
        go_ret
        exact ⟨by rw [hfin.out]; rfl, n0, rfl⟩
  · have hs : sameL l m = false := sameL_no (fun e => hne (by rw [e]))
    have hbn : ((l.length : Int) != (m.length : Int)) = true := by rw [bne_iff_ne]; omega
    have hs := Kp.mk hs
    go_enter Try.func18, Try.ntmps18
    go_wp2
    go_ret
    exact ⟨by rw [hs.out]; rfl, 0, rfl⟩

/-- The document's queue: its messages, how many there may be. -/
def RefQ (r most : Nat) (l : List (Array Value)) : HP := andH (l.length ≤ most ∧ most ≤ 4096 ∧ ∀ m ∈ l, Msg m) <|
  exH fun v => star [pt r (.cells #[v, .int .i64 most] 47 (0, 0)), Row 31 38 v l.length (flat l)]
theorem RefQ_open {E : Env} {w : World} {r most : Nat} {l : List (Array Value)} {F : List HP} (h : Sat E w (RefQ r most l :: F)) :
    (l.length ≤ most ∧ most ≤ 4096 ∧ ∀ m ∈ l, Msg m) ∧ ∃ v, Sat E w (pt r (.cells #[v, .int .i64 most] 47 (0, 0)) :: Row 31 38 v l.length (flat l) :: F) := by
  obtain ⟨h1, h2⟩ := h.and
  obtain ⟨c, h2⟩ := h2.ex
  exact ⟨h1, c, h2.flat⟩
theorem RefQ_shut {E : Env} {w : World} {r most : Nat} {l : List (Array Value)} {F : List HP} {v : Value} (h1 : l.length ≤ most ∧ most ≤ 4096 ∧ ∀ m ∈ l, Msg m)
    (h : Sat E w (pt r (.cells #[v, .int .i64 most] 47 (0, 0)) :: Row 31 38 v l.length (flat l) :: F)) : Sat E w (RefQ r most l :: F) :=
  Sat.and_mk h1 (Sat.ex_mk v (Sat.fold (K := [_, _]) h))

set_option maxRecDepth 100000 in
set_option maxHeartbeats 400000 in
theorem ref_new_at {E : Env} {w : World} {F : List HP} {r : Int} (hw : Sat E w F) (n : Int) (h0 : 0 ≤ n) (h1 : n ≤ 4096) (hn : (r < 0 ∧ n = 0) ∨ (0 ≤ r ∧ r ≤ 4096 ∧ n = r) ∨ (4096 < r ∧ n = 4096)) :
    Calls Try.prog 20 #[.int .i64 r] w fun e w' => ∃ q : Nat,
      e = .returned (.pointer (some ⟨q, 0, none⟩)) ∧ Sat E w' (RefQ q n.toNat [] :: F) := by
  have fin : ∀ {q : Nat} {w : World}, Sat E w (pt q (.cells #[.slice none 0 0, .int .i64 n] 47 (0, 0)) :: F) → Sat E w (RefQ q n.toNat [] :: F) := by
    intro q w hw
    refine RefQ_shut (v := .slice none 0 0) ⟨by simp, by omega, by simp⟩ ?_
    rw [show ((n.toNat : Nat) : Int) = n from by omega]
    have := Sat.perm (H' := _ :: _ :: F) (Row_nil (e := 31) (sz := 38) hw) (List.Perm.swap _ _ _)
    exact this
  have Fin := Kp.mk @fin
  clear fin
  rcases hn with ⟨hr, rfl⟩ | ⟨ha, hb, rfl⟩ | ⟨hr, rfl⟩
  all_goals
    go_enter Try.func20, Try.ntmps20
    go_wp2_with (refine wl_box hw _ (by simp only [Act.eval, Act.put, List.setIfInBounds_toArray, List.set_cons_succ, List.set_cons_zero, gd_s, gd_0, Value.cells]; exact rfl) ?_; clear hw; intro q w hw; (try simp only [List.set_cons_succ, List.set_cons_zero, List.setIfInBounds_toArray, Value.cells, List.eraseIdx_cons_succ, List.eraseIdx_cons_zero] at hw))
    go_ret
    exact ⟨_, rfl, Fin.out hw⟩

set_option maxRecDepth 100000 in
set_option maxHeartbeats 1000000 in
theorem ref_take_none {E : Env} {w : World} {r most : Nat} {F : List HP} (hw : Sat E w (RefQ r most [] :: F)) :
    Calls Try.prog 21 #[.pointer (some ⟨r, 0, none⟩)] w fun e w' =>
      e = .returned (.tuple #[.agg msg0, .int .i64 6]) ∧ Sat E w' (RefQ r most [] :: F) := by
  obtain ⟨hq, v, hw⟩ := RefQ_open hw
  obtain ⟨A, cap, rfl, _, _⟩ := Row_val hw 1 rfl
  go_enter Try.func21, Try.ntmps21
  go_wp2_with (first | (refine wl_alloc hw msg_zero ?_; clear hw; intro b w hw; (try simp only [List.set_cons_succ, List.set_cons_zero, List.setIfInBounds_toArray, Value.cells, List.eraseIdx_cons_succ, List.eraseIdx_cons_zero] at hw)) | (refine wl_load1 hw rfl 1 rfl (by decide +kernel) (by simp only [List.getElem?_toArray, List.getElem?_cons_succ, List.getElem?_cons_zero]; exact rfl) ?_) | (refine wl_store_all (vs := msg0) hw rfl 0 rfl rfl msg_size rfl (Msg.one msg0_ok) ?_; clear hw; intro w hw; (try simp only [List.set_cons_succ, List.set_cons_zero, List.setIfInBounds_toArray, Value.cells, List.eraseIdx_cons_succ, List.eraseIdx_cons_zero] at hw)))
  refine ret_cell_tmp rfl hw rfl 0 rfl msg_agg _ rfl rfl ?_
  exact ⟨rfl, RefQ_shut hq hw.tail⟩

set_option maxRecDepth 100000 in
set_option maxHeartbeats 1000000 in
theorem ref_take {E : Env} {w : World} {r most : Nat} {l : List (Array Value)} {F : List HP} {m : Array Value} (hw : Sat E w (RefQ r most (m :: l) :: F)) :
    Calls Try.prog 21 #[.pointer (some ⟨r, 0, none⟩)] w fun e w' =>
      e = .returned (.tuple #[.agg m, .int .i64 0]) ∧ Sat E w' (RefQ r most l :: F) := by
  obtain ⟨hq, v, hw⟩ := RefQ_open hw
  obtain ⟨A, cap, rfl, hc, hg⟩ := Row_val hw 1 rfl
  obtain ⟨g, rfl⟩ := hg (by simp)
  clear hg
  have hms := (hq.2.2 m (by simp)).size
  have hmo := (hq.2.2 m (by simp)).one
  have hmem : ∀ u ∈ (flat (m :: l)).drop (1 * 38), u.oneCell' = true := by
    rw [flat_drop 1 (fun x hx => (hq.2.2 x hx).size)]
    exact flat_mem (fun x hx => (hq.2.2 x (by simp at hx; simp [hx])).mem)
  have hll : (m :: l).length = l.length + 1 := rfl
  have hbn : (((m :: l).length : Int) == 0) = false := by rw [beq_eq_false_iff_ne]; simp; omega
  go_enter Try.func21, Try.ntmps21
  go_wp2_with (first
    | (refine wl_alloc hw msg_zero ?_; clear hw; intro b w hw; (try simp only [List.set_cons_succ, List.set_cons_zero, List.setIfInBounds_toArray, Value.cells, List.eraseIdx_cons_succ, List.eraseIdx_cons_zero] at hw))
    | (refine wl_load1 hw rfl 1 rfl (by decide +kernel) (by simp only [List.getElem?_toArray, List.getElem?_cons_succ, List.getElem?_cons_zero]; exact rfl) ?_)
    | (refine wl_index 0 (Rd_row hw 2 rfl) rfl rfl u_msgs msg_size (by omega) (by omega) ?_; intro ad hA hca; cases hA; have ca := Kp.mk (cells_at (k := 0) hca (fun x hx => (hq.2.2 x hx).size) rfl); clear hca)
    | (refine wl_ldA (m := m) rfl (by rw [msg_agg, hms]) ca.out ?_)
    | (refine wl_store_all (vs := m) hw rfl 0 rfl rfl (by rw [msg_size, hms]) (by simp only [hms, msg0_size]) hmo ?_; clear hw; intro w hw; (try simp only [List.set_cons_succ, List.set_cons_zero, List.setIfInBounds_toArray, Value.cells, List.eraseIdx_cons_succ, List.eraseIdx_cons_zero] at hw))
    | (refine wl_lit0 (el := 31) (sz := 38) hw (by kernel_rfl) (by kernel_rfl) ?_; clear hw; intro b3 w hw; (try simp only [List.set_cons_succ, List.set_cons_zero, List.setIfInBounds_toArray, Value.cells, List.eraseIdx_cons_succ, List.eraseIdx_cons_zero] at hw))
    | (refine wl_load1 hw rfl 3 rfl (by decide +kernel) (by simp only [List.getElem?_toArray, List.getElem?_cons_succ, List.getElem?_cons_zero]; exact rfl) ?_)
    | (refine wl_slice 1 (l.length + 1) rfl u_msgs msg_size (.inr rfl) (.inl ⟨rfl, rfl⟩) (by omega) (by omega) ?_; intro A1 HA1)
    | (at_builtin; go_must (refine wl_append hw 0 rfl rfl rfl (by rw [HA1.out]; exact (Rd_row hw 4 rfl).cut (k := 1) (by omega)) u_msgs msg_info rfl (by omega) hmem (by simp only [maxLen]; omega) (by omega) ?_); clear hw; intro v w hw hv; clear hv; (try simp only [List.set_cons_succ, List.set_cons_zero, List.setIfInBounds_toArray, Value.cells, List.eraseIdx_cons_succ, List.eraseIdx_cons_zero] at hw); obtain ⟨A', c', rfl, hc', _⟩ := Row_val hw 0 rfl)
    | (refine wl_store1 hw rfl 3 rfl (.slice A' _ c') rfl (by decide +kernel) (by simp) rfl ?_; clear hw; intro w hw; (try simp only [List.set_cons_succ, List.set_cons_zero, List.setIfInBounds_toArray, Value.cells, List.eraseIdx_cons_succ, List.eraseIdx_cons_zero] at hw))
    | (refine wl_load_all hw rfl 1 rfl (by rw [msg_agg, hms]) ?_)
    | (refine wl_store_all (vs := m) hw rfl 2 rfl rfl (by rw [msg_size, hms]) (by simp only [hms, msg0_size]) hmo ?_; clear hw; intro w hw; (try simp only [List.set_cons_succ, List.set_cons_zero, List.setIfInBounds_toArray, Value.cells, List.eraseIdx_cons_succ, List.eraseIdx_cons_zero] at hw)))
  refine ret_cell_tmp rfl hw rfl 2 rfl (by rw [msg_agg, hms]) _ rfl rfl ?_
  have hw := ((hw.del 1 rfl).del 1 rfl).del 2 rfl
  (try simp only [List.set_cons_succ, List.set_cons_zero, List.setIfInBounds_toArray, Value.cells, List.eraseIdx_cons_succ, List.eraseIdx_cons_zero] at hw)
  rw [flat_drop 1 (fun x hx => (hq.2.2 x hx).size)] at hw
  have hw := Sat.perm (H' := _ :: _ :: F) hw (List.Perm.swap _ _ _)
  simp only [Nat.zero_add, List.nil_append, List.drop_one, List.tail_cons, List.length_cons, Nat.add_sub_cancel] at hw
  exact ⟨rfl, RefQ_shut ⟨by simp at hq; omega, hq.2.1, fun x hx => hq.2.2 x (by simp [hx])⟩ hw⟩

set_option maxRecDepth 100000 in
set_option maxHeartbeats 1000000 in
theorem ref_put_full {E : Env} {w : World} {r most : Nat} {l : List (Array Value)} {F : List HP} {m : Array Value} (hw : Sat E w (RefQ r most l :: F)) (hm : Msg m) (hf : l.length = most) :
    Calls Try.prog 22 #[.pointer (some ⟨r, 0, none⟩), .agg m] w fun e w' =>
      e = .returned (.int .i64 5) ∧ Sat E w' (RefQ r most l :: F) := by
  obtain ⟨hq, v, hw⟩ := RefQ_open hw
  obtain ⟨A, cap, rfl, hc, hg⟩ := Row_val hw 1 rfl
  have h1 : ((l.length : Int) == (most : Int)) = true := by rw [beq_iff_eq]; omega
  go_enter Try.func22, Try.ntmps22
  go_wp2_with (refine wl_box hw _ (by simp only [Act.eval, Act.put, List.setIfInBounds_toArray, List.set_cons_succ, List.set_cons_zero, gd_s, gd_0, Value.cells]; exact rfl) ?_; clear hw; intro b w hw; (try simp only [List.set_cons_succ, List.set_cons_zero, List.setIfInBounds_toArray, Value.cells, List.eraseIdx_cons_succ, List.eraseIdx_cons_zero] at hw))
  have c0 : w.cell? ⟨r, 0, none⟩ = some (.slice A l.length cap) := cell_of_row _ _ _ _ _ _ (hw.read 1 rfl)
  have c1 : w.cell? ⟨r, 1, none⟩ = some (.int .i64 most) := cell_of_row _ _ _ _ _ _ (hw.read 1 rfl)
  go_quiet (fail)
  have hw := hw.drewN nq
  generalize w.drewN nq = w at hw ⊢
  go_wp2
  go_ret
  exact ⟨rfl, RefQ_shut hq hw.tail⟩

set_option maxRecDepth 100000 in
set_option maxHeartbeats 1000000 in
theorem ref_put {E : Env} {w : World} {r most : Nat} {l : List (Array Value)} {F : List HP} {m : Array Value} (hw : Sat E w (RefQ r most l :: F)) (hm : Msg m) (hf : l.length < most) :
    Calls Try.prog 22 #[.pointer (some ⟨r, 0, none⟩), .agg m] w fun e w' =>
      e = .returned (.int .i64 0) ∧ Sat E w' (RefQ r most (l ++ [m]) :: F) := by
  obtain ⟨hq, v, hw⟩ := RefQ_open hw
  obtain ⟨A, cap, rfl, hc, hg⟩ := Row_val hw 1 rfl
  clear hg
  have h1 : ((l.length : Int) == (most : Int)) = false := by rw [beq_eq_false_iff_ne]; omega
  have hms := hm.size
  have hmm := Kp.mk hm.mem
  go_enter Try.func22, Try.ntmps22
  go_wp2_with (refine wl_box hw _ (by simp only [Act.eval, Act.put, List.setIfInBounds_toArray, List.set_cons_succ, List.set_cons_zero, gd_s, gd_0, Value.cells]; exact rfl) ?_; clear hw; intro b w hw; (try simp only [List.set_cons_succ, List.set_cons_zero, List.setIfInBounds_toArray, Value.cells, List.eraseIdx_cons_succ, List.eraseIdx_cons_zero] at hw))
  have c0 : w.cell? ⟨r, 0, none⟩ = some (.slice A l.length cap) := cell_of_row _ _ _ _ _ _ (hw.read 1 rfl)
  have c1 : w.cell? ⟨r, 1, none⟩ = some (.int .i64 most) := cell_of_row _ _ _ _ _ _ (hw.read 1 rfl)
  go_quiet (fail)
  have hw := hw.drewN nq
  clear c0 c1
  generalize w.drewN nq = w at hw ⊢
  go_wp2
  refine Go.Proofs.YtbkfhieadnfndaaW.PrintLast.start_ (S := (fun w' => w'.heap[b]? = some (.cells m 31) ∧ w'.heap[r]? = some (.cells #[.slice A l.length cap, .int .i64 most] 47))) (ds := [10]) #[false, false, false, false, false, false, false, false, false, false, false] (by kernel_rfl) rfl (by rfl) ?_ (fun hS => ?_)
  · exact ⟨hw.drew.read 0 rfl, hw.drew.read 1 rfl⟩
  replace hw := hw.drew; generalize w.drew = w at hw hS ⊢
  refine pureE (i := 0) (oi := { dst := some 15, op := Op.move (Operand.tmp 0), type := 39, pos := "ref.go:34", after := #[], guard := none }) (N := some 15) #[true, false, false, false, false, false, false, false, false, false, false] rfl rfl (by kernel_rfl) (fun _ _ _ _ h => h) ?_
  apply Exists.intro
  refine ⟨Or.inl ⟨by rfl, ?_⟩, ?_⟩
  · intro w0; go_simp; try with_reducible rfl
  try simp only [Act.put, List.setIfInBounds_toArray, List.set_cons_succ, List.set_cons_zero]
  refine pureE (i := 1) (oi := { dst := some 16, op := Op.move (Operand.tmp 0), type := 39, pos := "ref.go:34", after := #[], guard := none }) (N := some 16) #[true, true, false, false, false, false, false, false, false, false, false] rfl rfl (by kernel_rfl) (fun _ _ _ _ h => h) ?_
  apply Exists.intro
  refine ⟨Or.inl ⟨by rfl, ?_⟩, ?_⟩
  · intro w0; go_simp; try with_reducible rfl
  try simp only [Act.put, List.setIfInBounds_toArray, List.set_cons_succ, List.set_cons_zero]
  refine pureE (i := 2) (oi := { dst := some 17, op := Op.nilCheck (Operand.tmp 16), type := 0, pos := "ref.go:34", after := #[{ on := 1, ground := Ground.data }], guard := none }) (N := some 17) #[true, true, true, false, false, false, false, false, false, false, false] rfl rfl (by kernel_rfl) (fun _ _ _ _ h => h) ?_
  apply Exists.intro
  refine ⟨Or.inl ⟨by rfl, ?_⟩, ?_⟩
  · intro w0; go_simp; try with_reducible rfl
  try simp only [Act.put, List.setIfInBounds_toArray, List.set_cons_succ, List.set_cons_zero]
  refine pureE (i := 3) (oi := { dst := some 18, op := Op.fieldAddr 47 (Operand.tmp 17) 0, type := 0, pos := "ref.go:34", after := #[{ on := 2, ground := Ground.data }], guard := none }) (N := some 18) #[true, true, true, true, false, false, false, false, false, false, false] rfl rfl (by kernel_rfl) (fun _ _ _ _ h => h) ?_
  apply Exists.intro
  refine ⟨Or.inl ⟨by rfl, ?_⟩, ?_⟩
  · intro w0; go_simp; try with_reducible rfl
  try simp only [Act.put, List.setIfInBounds_toArray, List.set_cons_succ, List.set_cons_zero]
  refine takeE (i := 4) (oi := { dst := some 19, op := Op.load 22 (Operand.tmp 18), type := 22, pos := "ref.go:34", after := #[{ on := 3, ground := Ground.data }], guard := none }) (N := some 19) #[true, true, true, true, true, false, false, false, false, false, false] rfl rfl (by kernel_rfl) (fun _ _ _ _ h => h) hS ?_
  apply Exists.intro
  refine ⟨Or.inl ⟨by rfl, fun w0 h => rn_blk1 rfl rfl (by kernel_rfl) h.2 rfl⟩, ?_⟩
  try simp only [Act.put, List.setIfInBounds_toArray, List.set_cons_succ, List.set_cons_zero]
  refine takeE (i := 5) (oi := { dst := some 20, op := Op.load 31 (Operand.tmp 3), type := 31, pos := "ref.go:34", after := #[], guard := none }) (N := some 20) #[true, true, true, true, true, true, false, false, false, false, false] rfl rfl (by kernel_rfl) (fun _ _ _ _ h => h) hS ?_
  apply Exists.intro
  refine ⟨Or.inl ⟨by rfl, fun w0 h => rn_blkA rfl rfl (by rw [msg_agg, hms]) h.1⟩, ?_⟩
  try simp only [Act.put, List.setIfInBounds_toArray, List.set_cons_succ, List.set_cons_zero]
  refine Go.Proofs.YtbkfhieadnfndaaW.PrintLast.one_ (i := 6) (oi := { dst := some 21, op := Op.buildSlice 22 1 #[(0, Operand.tmp 20)], type := 22, pos := "ref.go:34", after := #[{ on := 5, ground := Ground.data }], guard := none }) (N := some 21) #[true, true, true, true, true, true, true, false, false, false, false] rfl rfl (by kernel_rfl) (by decide) (fun K hK => ?_)
  rw [if_pos (by rfl)]
  refine wk_lit1 (el := 31) (sz := 38) hw (by simp only [Act.eval, Act.put, List.setIfInBounds_toArray, List.set_cons_succ, List.set_cons_zero, gd_s, gd_0, Value.cells]; exact rfl) (by kernel_rfl) (by kernel_rfl) (by kernel_rfl) (by simp only [Value.cells]; exact hms) (by omega) (by omega) ?_
  clear hw; intro b2 w hw; (try simp only [List.set_cons_succ, List.set_cons_zero, List.setIfInBounds_toArray, Value.cells, List.eraseIdx_cons_succ, List.eraseIdx_cons_zero] at hw)
  refine hK.out _ _ ⟨hw.read 1 rfl, hw.read 2 rfl⟩ (fun hS => ?_); clear hK K; try simp only [Act.put, List.setIfInBounds_toArray, List.set_cons_succ, List.set_cons_zero]
  refine Go.Proofs.YtbkfhieadnfndaaW.PrintLast.one_ (i := 7) (oi := { dst := some 22, op := Op.call { callee := Callee.builtin Builtin.append, args := #[Operand.tmp 19, Operand.tmp 21], argTypes := #[22, 22] }, type := 22, pos := "ref.go:34", after := #[{ on := 4, ground := Ground.data }, { on := 6, ground := Ground.data }], guard := none }) (N := some 22) #[true, true, true, true, true, true, true, true, false, false, false] rfl rfl (by kernel_rfl) (by decide) (fun K hK => ?_)
  rw [if_pos (by rfl)]
  refine wk_append hw 3 rfl rfl rfl (Rd_blk hw 0 rfl (n := 1) (Nat.le_refl _) m.toList (by simp [hms]) (by simp [hms, List.take_of_length_le])) u_msgs msg_info rfl (by omega) hmm.out (by simp only [maxLen]; omega) (by omega) ?_
  clear hw; intro v w hw hv; clear hv; (try simp only [List.set_cons_succ, List.set_cons_zero, List.setIfInBounds_toArray, Value.cells, List.eraseIdx_cons_succ, List.eraseIdx_cons_zero] at hw); obtain ⟨A', c', rfl, hc', _⟩ := Row_val hw 3 rfl
  refine hK.out _ _ ⟨hw.read 1 rfl, hw.read 2 rfl⟩ (fun hS => ?_); clear hK K; try simp only [Act.put, List.setIfInBounds_toArray, List.set_cons_succ, List.set_cons_zero]
  refine pureE (i := 8) (oi := { dst := some 23, op := Op.nilCheck (Operand.tmp 15), type := 0, pos := "ref.go:34", after := #[{ on := 0, ground := Ground.data }, { on := 0, ground := Ground.phase }, { on := 1, ground := Ground.phase }, { on := 2, ground := Ground.phase }, { on := 3, ground := Ground.phase }, { on := 4, ground := Ground.phase }, { on := 5, ground := Ground.phase }, { on := 6, ground := Ground.phase }, { on := 7, ground := Ground.phase }], guard := none }) (N := some 23) #[true, true, true, true, true, true, true, true, true, false, false] rfl rfl (by kernel_rfl) (fun _ _ _ _ h => h) ?_
  apply Exists.intro
  refine ⟨Or.inl ⟨by rfl, ?_⟩, ?_⟩
  · intro w0; go_simp; try with_reducible rfl
  try simp only [Act.put, List.setIfInBounds_toArray, List.set_cons_succ, List.set_cons_zero]
  refine pureE (i := 9) (oi := { dst := some 24, op := Op.fieldAddr 47 (Operand.tmp 23) 0, type := 0, pos := "ref.go:34", after := #[{ on := 8, ground := Ground.data }, { on := 0, ground := Ground.phase }, { on := 1, ground := Ground.phase }, { on := 2, ground := Ground.phase }, { on := 3, ground := Ground.phase }, { on := 4, ground := Ground.phase }, { on := 5, ground := Ground.phase }, { on := 6, ground := Ground.phase }, { on := 7, ground := Ground.phase }], guard := none }) (N := some 24) #[true, true, true, true, true, true, true, true, true, true, false] rfl rfl (by kernel_rfl) (fun _ _ _ _ h => h) ?_
  apply Exists.intro
  refine ⟨Or.inl ⟨by rfl, ?_⟩, ?_⟩
  · intro w0; go_simp; try with_reducible rfl
  try simp only [Act.put, List.setIfInBounds_toArray, List.set_cons_succ, List.set_cons_zero]
  refine Go.Proofs.YtbkfhieadnfndaaW.PrintLast.last_ (i := 10) (oi := { dst := none, op := Op.store 22 (Operand.tmp 24) (Operand.tmp 22), type := 0, pos := "ref.go:34", after := #[{ on := 9, ground := Ground.data }, { on := 7, ground := Ground.data }, { on := 7, ground := Ground.chain }, { on := 0, ground := Ground.phase }, { on := 1, ground := Ground.phase }, { on := 2, ground := Ground.phase }, { on := 3, ground := Ground.phase }, { on := 4, ground := Ground.phase }, { on := 5, ground := Ground.phase }, { on := 6, ground := Ground.phase }, { on := 7, ground := Ground.phase }], guard := none }) (N := none) #[true, true, true, true, true, true, true, true, true, true, true] rfl rfl (by kernel_rfl) (by decide) (fun K hK => ?_)
  rw [if_pos (by rfl)]
  refine wk_store1 hw rfl 2 rfl (.slice A' _ c') rfl (by kernel_rfl) (by simp) rfl ?_
  clear hw; intro w hw; (try simp only [List.set_cons_succ, List.set_cons_zero, List.setIfInBounds_toArray, Value.cells, List.eraseIdx_cons_succ, List.eraseIdx_cons_zero] at hw)
  refine hK.out _ _ ?_; clear hK K; try simp only [Act.put, List.setIfInBounds_toArray, List.set_cons_succ, List.set_cons_zero]
  refine Go.Proofs.YtbkfhieadnfndaaW.PrintLast.done_ (by kernel_rfl) ?_; clear hS
  go_wp2
  go_ret
  have hw := (hw.del 0 rfl).del 0 rfl
  (try simp only [List.set_cons_succ, List.set_cons_zero, List.setIfInBounds_toArray, Value.cells, List.eraseIdx_cons_succ, List.eraseIdx_cons_zero] at hw)
  rw [← flat_one, ← flat_app, show l.length + 1 = (l ++ [m]).length from by simp] at hw
  refine ⟨rfl, RefQ_shut ⟨by simp; omega, hq.2.1, ?_⟩ hw⟩
  intro x hx
  rcases List.mem_append.1 hx with h | h
  · exact hq.2.2 x h
  · simp at h; subst h; exact hm
end Go.Proofs.Ytbkfhieadnfndaa
