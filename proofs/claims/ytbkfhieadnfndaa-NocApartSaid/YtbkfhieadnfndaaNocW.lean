/- slices.AppendSeq, slices.Collect, maps.Keys over links. Conditions: none. -/
import Derived.Test.YtbkfhieadnfndaaNocV
set_option linter.unusedVariables false
set_option linter.unusedSimpArgs false
namespace Go.Proofs.Ytbkfhieadnfndaa
open Go Go.RowKit Go.Sx Go.Bst
set_option maxRecDepth 100000
set_option maxHeartbeats 4000000
/-- What an iterator over links does, whatever the round keeps. -/
def Hits (g : Nat) (lb : Array Value) (E : Env) (S : List Lk → Prop) (A : HP) : Prop :=
  ∀ {l : Nat} {w : World} {F : List HP} (B : List Lk → HP), Sat E w (B [] :: A :: F) →
    (∀ pre x w1 F1, pre.length < 1000000 → Sat E w1 (B pre :: F1) → YieldAt Fence.wide 0 Try.prog l #[lkV x] w1 fun e w' => e = .returned (.bool true) ∧ Sat E w' (B (pre ++ [x]) :: F1)) →
    Calls Try.prog g (#[.func (.yield l) #[] #[]] ++ lb) w fun e w' => (∃ v, e = .returned v) ∧ ∃ xs, S xs ∧ Sat E w' (B xs :: A :: F)
section
variable {E : Env} {w : World} {F : List HP} {A : HP} {S : List Lk → Prop} {g : Nat} {lb : Array Value}
theorem append_seq (hg : callB Try.prog g = true) (hh : Hits g lb E S A) (hw : Sat E w (A :: F)) :
    Calls Try.prog 62 #[.slice none 0 0, .func (.func g) #[] lb] w fun e w' => ∃ v xs, e = .returned v ∧ S xs ∧ Sat E w' (Row 82 3 v xs.length (flat (xs.map lkA)) :: A :: F) := by
  refine callsIn_wide.1 (callsIn_of_wp_marks (n := 0) Try.func62 rfl trivial ?_)
  show Code.wpIn _ _ _ _ _ { tmps := #[.slice none 0 0, .func (.func g) #[] lb, undef, undef, undef, undef, undef, undef, undef, undef, undef, undef, undef], defers := [] } w
  refine wpIn_seq (wpIn_wide.2 (wp_region_lit ?_))
  refine wl_box hw _ rfl ?_; clear hw; intro Bs w hw
  simp only [Act.put, List.setIfInBounds_toArray, List.set_cons_succ, List.set_cons_zero]
  refine wl_run (v := .slice none 0 0) (w' := w) rfl ?_
  simp only [Act.put, List.setIfInBounds_toArray, List.set_cons_succ, List.set_cons_zero]
  refine wpList_nil ?_
  refine wpIn_seq (wpIn_seq (wpIn_wide.2 (wp_region_lit ?_)))
  refine wl_run (v := .func (.func g) #[] lb) (w' := w) rfl ?_
  simp only [Act.put, List.setIfInBounds_toArray, List.set_cons_succ, List.set_cons_zero]
  refine wpList_nil (wpIn_block (wpIn_rangeFunc ?_))
  intro fn _
  have hw := Row_nil (e := 82) (sz := 3) hw
  have hw1 := (hw.laid (.deferred (some []))).laid (.loop (apRec fn (.func (.func g) #[] lb) Bs w.heap.size .ready))
  have hs1 : (w.alloc (.deferred (some []))).heap.size = w.heap.size + 1 := by simp
  rw [hs1] at hw1
  obtain ⟨W1, hW1⟩ : ∃ W1, (w.alloc (.deferred (some []))).alloc (.loop (apRec fn (.func (.func g) #[] lb) Bs w.heap.size .ready)) = W1 := ⟨_, rfl⟩
  rw [hW1] at hw1
  refine ⟨w.heap.size + 1, [{ target := .collected w.heap.size, args := #[] }], W1, { target := .fn (.func g) lb, args := #[.func (.yield (w.heap.size + 1)) #[] #[]] }, W1, g,
    #[.func (.yield (w.heap.size + 1)) #[] #[]] ++ lb, W1, by rw [← hW1]; exact run_enterLoop_outer _ _ _ _ _, ?_, fun _ _ => trivial, ?_, wide_dep, callsIn_wide.2 ?_⟩
  · simp [resolve, go_sem]
  · simp [invoke, go_sem, run_callFunc hg]
  clear hW1 hs1
  generalize w.heap.size = D at hw1 ⊢
  have hw2 : Sat E W1 (Ap fn (.func (.func g) #[] lb) Bs (D + 1) D [] :: A :: F) := Ap_shut (v := .slice none 0 0) (by have hw := hw1; exact (Sat.gets hw (by repeat (first | exact Gets.nil | exact Gets.refl _ | refine Gets.get 0 rfl ?_ | refine Gets.get 1 rfl ?_ | refine Gets.get 2 rfl ?_ | refine Gets.get 3 rfl ?_ | refine Gets.get 4 rfl ?_ | refine Gets.get 5 rfl ?_ | refine Gets.get 6 rfl ?_ | refine Gets.get 7 rfl ?_ | refine Gets.get 8 rfl ?_ | refine Gets.get 9 rfl ?_ | refine Gets.drop ?_))))
  refine (hh (Ap fn (.func (.func g) #[] lb) Bs (D + 1) D) hw2 fun pre x w1 F1 hl h => ap_yield hl h).mono ?_
  clear hw hw1 hw2 W1
  rintro e w1 ⟨⟨v0, rfl⟩, xs, hS, hw⟩
  obtain ⟨v, hw⟩ := Ap_open hw
  have hl := hw.read 1 rfl
  refine ⟨none, _, run_endLoop hl (by simp [apRec]), ?_⟩
  have hw := (hw.front 1 rfl).putObj (o' := .loop { apRec fn (.func (.func g) #[] lb) Bs D .ready with state := .exhausted })
  simp only [List.eraseIdx_cons_succ, List.eraseIdx_cons_zero] at hw
  generalize w1.putObj (D + 1) (.loop { apRec fn (.func (.func g) #[] lb) Bs D .ready with state := .exhausted }) = w2 at hw ⊢
  show Code.wpIn _ _ _ _ _ _ w2
  refine wpIn_seq (wpIn_wide.2 (wp_region_lit ?_))
  refine wl_load1 hw rfl 1 rfl (by decide +kernel) (by simp only [List.getElem?_toArray, List.getElem?_cons_succ, List.getElem?_cons_zero]; exact rfl) ?_
  simp only [Act.put, List.setIfInBounds_toArray, List.set_cons_succ, List.set_cons_zero]
  refine wl_run (v := v) (w' := w2) rfl ?_
  simp only [Act.put, List.setIfInBounds_toArray, List.set_cons_succ, List.set_cons_zero]
  refine wpList_nil (wpIn_ret ?_)
  refine ⟨by simp, .inl ⟨_, _, rfl, run_takeDeferred (hw.read 2 rfl), ?_⟩⟩
  have hw := (hw.front 2 rfl).putObj (o' := .deferred none)
  simp only [List.eraseIdx_cons_succ, List.eraseIdx_cons_zero] at hw
  exact ⟨_, results_tmp rfl _ _ _, v, xs, rfl, hS, (Sat.gets hw (by repeat (first | exact Gets.nil | exact Gets.refl _ | refine Gets.get 0 rfl ?_ | refine Gets.get 1 rfl ?_ | refine Gets.get 2 rfl ?_ | refine Gets.get 3 rfl ?_ | refine Gets.get 4 rfl ?_ | refine Gets.get 5 rfl ?_ | refine Gets.get 6 rfl ?_ | refine Gets.get 7 rfl ?_ | refine Gets.get 8 rfl ?_ | refine Gets.get 9 rfl ?_ | refine Gets.drop ?_)))⟩
theorem keys_of {mb : Nat} (hw : Sat E w F) :
    Calls Try.prog 55 #[.map (some mb)] w fun e w' => ∃ b, e = .returned (.func (.func 59) #[] #[.pointer (some ⟨b, 0, none⟩)]) ∧ Sat E w' (pt b (.cells #[.map (some mb)] 113 (0, 0)) :: F) := by
  refine calls_of_wp Try.func55 rfl ?_
  show Code.wp _ _ _ { tmps := #[.map (some mb), undef, undef, undef], defers := [] } w
  refine wp_seq (wp_region_lit ?_)
  refine wl_box hw _ rfl ?_; clear hw; intro b w hw
  simp only [Act.put, List.setIfInBounds_toArray, List.set_cons_succ, List.set_cons_zero]
  refine wl_run (v := .nilFunc) (w' := w) rfl ?_
  simp only [Act.put, List.setIfInBounds_toArray, List.set_cons_succ, List.set_cons_zero]
  refine wpList_nil (wp_seq (wp_region_lit ?_))
  refine wl_run (rn_makeFunc rfl) ?_
  simp only [Act.put, List.setIfInBounds_toArray, List.set_cons_succ, List.set_cons_zero]
  refine wl_run (v := .func (.func 59) #[] #[.pointer (some ⟨b, 0, none⟩)]) (w' := w) (by simp [execOp]; rfl) ?_
  simp only [Act.put, List.setIfInBounds_toArray, List.set_cons_succ, List.set_cons_zero]
  refine wpList_nil (wp_ret ?_)
  exact ⟨rfl, _, results_tmp rfl _ _ _, b, rfl, hw⟩
def kv (adr : Lk → Nat) (x : Lk) : Value × Value := (lkV x, .pointer (some ⟨adr x, 0, none⟩))
/-- All links, once each. -/
def AllLk (n : Nat) (xs : List Lk) : Prop := xs.Nodup ∧ ∀ x, x ∈ xs ↔ thereB n x = true
theorem lks_len (n : Nat) : (lks n).length = 3 * (n * n) := by
  unfold lks
  rw [List.length_flatMap]
  simp only [List.length_flatMap, List.length_map, List.length_range]
  simp [List.map_const', List.sum_replicate_nat]
  generalize n * n = q
  omega
theorem fit_there {n : Nat} {x : Lk} (hn : n ≤ 16) (h : thereB n x = true) : fit3 x := by
  unfold thereB at h
  have h := of_decide_eq_true h
  simp [fit3, fitAll, SK.fits, IntKind.min, IntKind.max, IntKind.signed, IntKind.bits]
  omega
theorem keyF_some {n : Nat} {adr : Lk → Nat} {x : Lk} {v : Value} (h : keyF n adr (lkV x) = some v) : thereB n x = true ∧ v = .pointer (some ⟨adr x, 0, none⟩) := by
  rw [keyF_lk] at h
  cases ht : thereB n x with
  | false => rw [ht] at h; cases h
  | true => rw [ht] at h; exact ⟨rfl, (Option.some.inj h).symm⟩
theorem kv_nodup {adr : Lk → Nat} {xs : List Lk} (h : ((xs.map (kv adr)).map (·.1)).Nodup) : xs.Nodup := by
  rw [List.map_map] at h
  exact nodup_of_map h
theorem keys_hits {Bm mb n : Nat} {adr : Lk → Nat} (hn : n ≤ 16) : Hits 59 #[.pointer (some ⟨Bm, 0, none⟩)] E (AllLk n) (star [pt Bm (.cells #[.map (some mb)] 113 (0, 0)), Mf mb IsLk (keyF n adr)]) := by
  intro l w F B hw hY
  have hw := (hw.front 1 rfl).flat
  simp only [List.eraseIdx_cons_succ, List.eraseIdx_cons_zero, List.cons_append, List.nil_append] at hw
  refine calls_of_wp Try.func59 rfl ?_
  show Code.wp _ _ _ { tmps := #[.func (.yield l) #[] #[], .pointer (some ⟨Bm, 0, none⟩), undef, undef, undef, undef, undef, undef, undef, undef, undef, undef, undef, undef], defers := [] } w
  refine wp_seq (wp_region_lit ?_)
  refine wl_load1 hw rfl 0 rfl (by decide +kernel) (by simp only [List.getElem?_toArray, List.getElem?_cons_succ, List.getElem?_cons_zero]; exact rfl) ?_
  simp only [Act.put, List.setIfInBounds_toArray, List.set_cons_succ, List.set_cons_zero]
  refine wpList_plain rfl fun K hK => wk_range u_Link rfl (hw.front 1 rfl) fun r m w hw => hK _ _ ?_
  simp only [List.eraseIdx_cons_succ, List.eraseIdx_cons_zero] at hw
  simp only [Act.put, List.setIfInBounds_toArray, List.set_cons_succ, List.set_cons_zero]
  refine wpList_nil (wp_block (wp_loop_ghost (fun k a w => ∃ (xs : List Lk) (u3 u6 u7 u8 u9 u10 u11 u12 u13 : Value), xs.length + k = m ∧ a = { tmps := #[.func (.yield l) #[] #[], .pointer (some ⟨Bm, 0, none⟩), undef, u3, .map (some mb), .pointer (some ⟨r, 0, none⟩), u6, u7, u8, u9, u10, u11, u12, u13], defers := [] } ∧ Sat E w (Rng r mb IsLk (keyF n adr) m (xs.map (kv adr)) :: pt Bm (.cells #[.map (some mb)] 113 (0, 0)) :: B xs :: F)) m ⟨[], _, _, _, _, _, _, _, _, _, by simp, rfl, hw⟩ ?_))
  clear hw
  rintro k a w ⟨xs, u3, u6, u7, u8, u9, u10, u11, u12, u13, hk, rfl, hw⟩
  refine wp_seq (wp_region_lit ?_)
  refine wpList_plain rfl fun K hK => wk_next rfl hw (fun h1 h2 h3 => hK _ _ ?_) (fun key v w1 hkey hv hnew hlt h1 h2 hw1 => hK _ _ ?_)
  · clear hK K
    simp only [Act.put, List.setIfInBounds_toArray, List.set_cons_succ, List.set_cons_zero]
    refine wl_run (v := .bool false) (w' := w) rfl ?_
    simp only [Act.put, List.setIfInBounds_toArray, List.set_cons_succ, List.set_cons_zero]
    refine wpList_nil (wp_seq (wp_cond_false rfl (wp_exit ?_)))
    refine ⟨rfl, _, results_none rfl _ _ _, ⟨_, rfl⟩, xs, ⟨kv_nodup h1, fun x => ⟨fun hx => ?_, fun hx => ?_⟩⟩, ?_⟩
    · exact (keyF_some (h2 (kv adr x) (List.mem_map.2 ⟨x, hx, rfl⟩)).2).1
    · have := h3 (lkV x) (.pointer (some ⟨adr x, 0, none⟩)) ⟨x, rfl, fit_there hn hx⟩ (by rw [keyF_lk, hx]; rfl)
      obtain ⟨y, hy, e⟩ := List.mem_map.1 this
      rw [← lkV_inj (Prod.mk.inj e).1]; exact hy
    · have hw := Rng_end hw
      have hw2 : Sat E w (pt Bm (.cells #[.map (some mb)] 113 (0, 0)) :: Mf mb IsLk (keyF n adr) :: B xs :: F) := hw.perm (List.Perm.swap _ _ _)
      exact (Sat.fold (K := [_, _]) hw2).perm (List.Perm.swap _ _ _)
  · clear hK K hw
    obtain ⟨x, rfl, hx⟩ := hkey
    obtain ⟨ht, rfl⟩ := keyF_some hv
    have hxn : x ∉ xs := fun h => hnew (by rw [List.map_map]; exact List.mem_map.2 ⟨x, h, rfl⟩)
    have hnd : (xs ++ [x]).Nodup := by
      rw [List.nodup_append]
      exact ⟨kv_nodup h1, by simp, fun a ha b hb e => hxn (by rw [List.mem_singleton.1 hb] at e; rw [← e]; exact ha)⟩
    have hlen := nodup_le hnd (r := lks n) (fun y hy => by
      rcases List.mem_append.1 hy with hy | hy
      · exact mem_lks.2 (keyF_some (h2 (kv adr y) (List.mem_map.2 ⟨y, hy, rfl⟩)).2).1
      · rw [List.mem_singleton.1 hy]; exact mem_lks.2 ht)
    have hn2 : n * n ≤ 16 * 16 := Nat.mul_le_mul hn hn
    rw [lks_len, List.length_append, List.length_singleton] at hlen
    rw [List.length_map] at hlt
    simp only [Act.put, List.setIfInBounds_toArray, List.set_cons_succ, List.set_cons_zero]
    refine wl_run (v := .bool true) (w' := w1) rfl ?_
    simp only [Act.put, List.setIfInBounds_toArray, List.set_cons_succ, List.set_cons_zero]
    refine wpList_nil (wp_seq (wp_cond_true rfl (wp_skip ?_)))
    refine wp_block (wp_seq (wp_region_lit ?_))
    refine wpList_plain rfl fun K hK => wk_entry rfl hw1 (hK _ _ ?_)
    clear hK K
    simp only [Act.put, List.setIfInBounds_toArray, List.set_cons_succ, List.set_cons_zero]
    refine wl_run (v := .agg (lkA x)) (w' := w1) rfl ?_
    simp only [Act.put, List.setIfInBounds_toArray, List.set_cons_succ, List.set_cons_zero]
    refine wl_alloc hw1 lk_zero ?_; intro b w hw
    simp only [Act.put, List.setIfInBounds_toArray, List.set_cons_succ, List.set_cons_zero]
    refine wl_store_all (vs := lkA x) hw rfl 0 rfl rfl (by kernel_rfl) rfl (by simp [lkA, Value.oneCell']) ?_; clear hw hw1 w; intro w hw; (try simp only [List.set_cons_succ, List.set_cons_zero, List.setIfInBounds_toArray, Value.cells, List.eraseIdx_cons_succ, List.eraseIdx_cons_zero] at hw)
    refine wpList_nil (wp_seq ((wpIn_wide (n := 0)).1 (wpIn_region_lit ?_)))
    simp only [Act.put, List.setIfInBounds_toArray, List.set_cons_succ, List.set_cons_zero]
    refine wpListIn_plain rfl fun K hK => in_wp0 (wk_run (v := .func (.yield l) #[] #[]) (w' := w) rfl (hK _ _ ?_)); clear hK K
    simp only [Act.put, List.setIfInBounds_toArray, List.set_cons_succ, List.set_cons_zero]
    refine wpListIn_plain rfl fun K hK => in_wp0 (wk_load_all hw rfl 0 rfl lk_agg (hK _ _ ?_)); clear hK K
    simp only [Act.put, List.setIfInBounds_toArray, List.set_cons_succ, List.set_cons_zero]
    have hw := hw.front 3 rfl
    simp only [List.eraseIdx_cons_succ, List.eraseIdx_cons_zero] at hw
    refine wpListIn_plain rfl fun K hK => wi_yield rfl #[lkV x] (by simp [Act.eval, lkV_A]) (hY xs x w _ (by omega) hw) ?_
    rintro e w ⟨rfl, hw⟩
    refine ⟨_, rfl, hK _ _ ?_⟩; clear hK K
    simp only [Act.put, List.setIfInBounds_toArray, List.set_cons_succ, List.set_cons_zero]
    refine wpListIn_plain rfl fun K hK => in_wp0 (wk_run (v := .bool false) (w' := w) rfl (hK _ _ ?_)); clear hK K
    simp only [Act.put, List.setIfInBounds_toArray, List.set_cons_succ, List.set_cons_zero]
    refine wpListIn_nil (wp_cond_false rfl (wp_skip ?_))
    refine ⟨k - 1, by omega, xs ++ [x], _, _, _, _, _, _, _, _, _, by simp; omega, rfl, ?_⟩
    rw [List.map_append]
    exact (Sat.gets hw (by repeat (first | exact Gets.nil | exact Gets.refl _ | refine Gets.get 0 rfl ?_ | refine Gets.get 1 rfl ?_ | refine Gets.get 2 rfl ?_ | refine Gets.get 3 rfl ?_ | refine Gets.get 4 rfl ?_ | refine Gets.get 5 rfl ?_ | refine Gets.get 6 rfl ?_ | refine Gets.get 7 rfl ?_ | refine Gets.get 8 rfl ?_ | refine Gets.get 9 rfl ?_ | refine Gets.drop ?_)))
end
end Go.Proofs.Ytbkfhieadnfndaa
