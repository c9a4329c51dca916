/- slices.Collect of maps.Keys, over links: a range over a function. Conditions: none. -/
import Derived.Test.YtbkfhieadnfndaaNocT
import Derived.Test.YtbkfhieadnfndaaRfn
import Derived.Test.YtbkfhieadnfndaaRng
import Derived.Deep.LoopGhost
set_option linter.unusedVariables false
set_option linter.unusedSimpArgs false
namespace Go.Proofs.Ytbkfhieadnfndaa
open Go Go.RowKit Go.Sx Go.Bst
set_option maxRecDepth 100000
set_option maxHeartbeats 4000000
noncomputable def apA : Code := match Try.f62.body with
  | some (.seq _ (.seq (.seq _ (.block _ (.rangeFunc _ _ x _))) _)) => x
  | _ => .skip
noncomputable def apB : Code := match Try.f62.body with
  | some (.seq _ (.seq (.seq _ (.block _ (.rangeFunc _ _ _ x))) _)) => x
  | _ => .skip
def lkA (l : Lk) : Array Value := #[.int .i64 l.1, .int .i64 l.2.1, .int .i64 l.2.2]
theorem lkV_A (l : Lk) : lkV l = .agg (lkA l) := rfl
def apT (sv : Value) (Bs : Nat) : Array Value := #[.slice none 0 0, sv, .pointer (some ⟨Bs, 0, none⟩), undef, .slice none 0 0, undef, sv, undef, undef, undef, undef, undef, undef]
noncomputable def apRec (fn : FuncId) (sv : Value) (Bs D : Nat) (st : LoopState) : Loop := { state := st, pending := none, fn, tmps := apT sv Bs, params := #[7], assign := apA, body := apB, defers := D }
noncomputable def Ap (fn : FuncId) (sv : Value) (Bs l D : Nat) (ks : List Lk) : HP :=
  exH fun v => star [pt Bs (.cells #[v] 77 (0, 0)), pt l (.loop (apRec fn sv Bs D .ready)), pt D (.deferred (some [])), Row 82 3 v ks.length (flat (ks.map lkA))]
theorem u_lks : Try.prog.underlying 77 = some (.slice 82) := by kernel_rfl
theorem lk_info : (Try.prog.info? 82).map (fun i => (i.zero, i.size, i.bytes)) = some (some (.agg (lkA (0, 0, 0))), 3, 24) := by kernel_rfl
theorem lk_zero : zeroOf Try.prog 82 = some (.agg (lkA (0, 0, 0))) := by kernel_rfl
theorem lk_agg : aggSize Try.prog 82 = some 3 := by kernel_rfl
theorem lk_mem (l : Lk) : ∀ u ∈ (lkA l).toList, u.oneCell' = true := by
  intro u hu
  simp only [lkA, List.mem_cons, List.not_mem_nil, or_false] at hu
  rcases hu with rfl | rfl | rfl <;> rfl
section
variable {E : Env} {w : World} {F : List HP} {fn : FuncId} {sv : Value} {Bs l D : Nat} {ks : List Lk}
theorem Ap_open (h : Sat E w (Ap fn sv Bs l D ks :: F)) : ∃ v, Sat E w (pt Bs (.cells #[v] 77 (0, 0)) :: pt l (.loop (apRec fn sv Bs D .ready)) :: pt D (.deferred (some [])) :: Row 82 3 v ks.length (flat (ks.map lkA)) :: F) := by
  obtain ⟨v, h⟩ := h.ex
  exact ⟨v, h.flat⟩
theorem Ap_shut {v : Value} (h : Sat E w (pt Bs (.cells #[v] 77 (0, 0)) :: pt l (.loop (apRec fn sv Bs D .ready)) :: pt D (.deferred (some [])) :: Row 82 3 v ks.length (flat (ks.map lkA)) :: F)) : Sat E w (Ap fn sv Bs l D ks :: F) :=
  Sat.ex_mk v (Sat.fold (K := [_, _, _, _]) h)
theorem ap_yield {m : Nat} {x : Lk} (hN : ks.length < 1000000) (hw : Sat E w (Ap fn sv Bs l D ks :: F)) :
    YieldAt Fence.wide m Try.prog l #[lkV x] w fun e w' => e = .returned (.bool true) ∧ Sat E w' (Ap fn sv Bs l D (ks ++ [x]) :: F) := by
  obtain ⟨v, hw⟩ := Ap_open hw
  refine ⟨fn, #[.slice none 0 0, sv, .pointer (some ⟨Bs, 0, none⟩), undef, .slice none 0 0, undef, sv, .agg (lkA x), undef, undef, undef, undef, undef], apA, apB, by simpa [apRec, apT, lkV_A] using run_yield (P := Try.prog) (args := #[lkV x]) (hw.read 1 rfl) rfl, roundIn_of_wpIn trivial ?_⟩
  refine in_region (fun ⟨_, _, h⟩ => h.elim) rfl ?_
  refine wl_alloc hw lk_zero ?_; clear hw; intro b w hw
  simp only [Act.put, List.setIfInBounds_toArray, List.set_cons_succ, List.set_cons_zero]
  refine wl_store_all (vs := lkA x) hw rfl 0 rfl rfl (by kernel_rfl) rfl (by simp [lkA, Value.oneCell']) ?_; clear hw; intro w hw; (try simp only [List.set_cons_succ, List.set_cons_zero, List.setIfInBounds_toArray, Value.cells, List.eraseIdx_cons_succ, List.eraseIdx_cons_zero] at hw)
  refine wpList_nil ?_
  refine ⟨_, run_beginRound (hw.read 2 rfl) rfl, ?_⟩
  have hw := (hw.front 2 rfl).putObj (o' := .loop (apRec fn sv Bs D .busy))
  simp only [List.eraseIdx_cons_succ, List.eraseIdx_cons_zero] at hw
  show Code.wpIn _ _ _ _ _ _ (w.putObj l (.loop (apRec fn sv Bs D .busy)))
  generalize w.putObj l (.loop (apRec fn sv Bs D .busy)) = w at hw ⊢
  refine wpIn_block (in_region (fun ⟨_, _, h⟩ => h.elim) rfl ?_)
  simp only [Act.put, List.setIfInBounds_toArray, List.set_cons_succ, List.set_cons_zero]
  refine wl_load1 hw rfl 2 rfl (by decide +kernel) (by simp only [List.getElem?_toArray, List.getElem?_cons_succ, List.getElem?_cons_zero]; exact rfl) ?_
  simp only [Act.put, List.setIfInBounds_toArray, List.set_cons_succ, List.set_cons_zero]
  refine wl_load_all hw rfl 1 rfl lk_agg ?_
  simp only [Act.put, List.setIfInBounds_toArray, List.set_cons_succ, List.set_cons_zero]
  refine wl_lit1 (el := 82) (sz := 3) (v := .agg (lkA x)) hw rfl u_lks (by kernel_rfl) (by kernel_rfl) rfl (by omega) (by omega) ?_; clear hw; intro b2 w hw
  simp only [Act.put, List.setIfInBounds_toArray, List.set_cons_succ, List.set_cons_zero]
  refine wl_append (n := ks.length) (m := 1) (news := (lkA x).toList) hw 5 rfl rfl rfl (Rd_blk hw 0 rfl (n := 1) (Nat.le_refl _) (lkA x).toList rfl rfl) u_lks lk_info rfl (by omega) (lk_mem x) (by simp only [maxLen]; omega) (by omega) ?_
  clear hw; intro v' w hw hv; clear hv; (try simp only [List.set_cons_succ, List.set_cons_zero, List.setIfInBounds_toArray, Value.cells, List.eraseIdx_cons_succ, List.eraseIdx_cons_zero] at hw)
  simp only [Act.put, List.setIfInBounds_toArray, List.set_cons_succ, List.set_cons_zero]
  refine wl_store1 hw rfl 3 rfl v' rfl (by decide +kernel) (by simp) (by obtain ⟨A, cap, hA, _⟩ := Row_val hw 5 rfl; rw [hA]; rfl) ?_; clear hw; intro w hw; (try simp only [List.set_cons_succ, List.set_cons_zero, List.setIfInBounds_toArray, Value.cells, List.eraseIdx_cons_succ, List.eraseIdx_cons_zero] at hw)
  refine wpList_nil ?_
  have hl := hw.read 1 rfl
  refine ⟨_, _, run_endRound none hl, rfl, ?_⟩
  have hw := (hw.front 1 rfl).putObj (o' := .loop (apRec fn sv Bs D .ready))
  simp only [List.eraseIdx_cons_succ, List.eraseIdx_cons_zero] at hw
  refine Ap_shut (v := v') ?_
  rw [List.length_append, List.map_append, flat_app]
  show Sat E (w.putObj l (.loop (apRec fn sv Bs D .ready))) _
  exact (Sat.gets hw (by repeat (first | exact Gets.nil | exact Gets.refl _ | refine Gets.get 0 rfl ?_ | refine Gets.get 1 rfl ?_ | refine Gets.get 2 rfl ?_ | refine Gets.get 3 rfl ?_ | refine Gets.get 4 rfl ?_ | refine Gets.get 5 rfl ?_ | refine Gets.get 6 rfl ?_ | refine Gets.get 7 rfl ?_ | refine Gets.get 8 rfl ?_ | refine Gets.get 9 rfl ?_ | refine Gets.drop ?_)))
end
end Go.Proofs.Ytbkfhieadnfndaa
