/- The book of package mac: New, and what its two kinds of tags do. Conditions: none. -/
import Derived.Test.YtidkfjgelcpieaaMacB
set_option linter.unusedVariables false
set_option linter.unusedSimpArgs false
namespace Go.Proofs.Ytidkfjgelcpieaa
open Go.RowKit Go.Bst Go.MapKept Go.Proofs.YtidkfjgelcpieaaW.PrintLast
attribute [local irreducible] wpList Calls Code.wp Code.wpN Oper.wp Go.Proofs.YtidkfjgelcpieaaW.PrintLast.wpAnyLast

theorem build_key : ∀ {k : List UInt8}, k.length = 16 → buildC Try.prog 83 [(0, (ybs k).toArray)] = some (ybs k).toArray
  | [a0, a1, a2, a3, a4, a5, a6, a7, a8, a9, b0, b1, b2, b3, b4, b5], _ => by kernel_rfl
theorem mark_info : (Try.prog.info? 54).map (fun i => (i.zero, i.size, i.bytes)) = some (some (.agg #[.slice none 0 0, .int .u64 0]), 2, 32) := by kernel_rfl
theorem bad_info : (Try.prog.info? 60).map (fun i => (i.zero, i.size, i.bytes)) = some (some (.agg #[.int .i64 0, .slice none 0 0, .slice none 0 0, .int .u64 0]), 4, 64) := by kernel_rfl
theorem u_marks : Try.prog.underlying 51 = some (.slice 54) := by kernel_rfl
theorem u_bads : Try.prog.underlying 57 = some (.slice 60) := by kernel_rfl
theorem mark_size : (Try.prog.info? 54).map (·.size) = some 2 := by kernel_rfl
theorem bad_size : (Try.prog.info? 60).map (·.size) = some 4 := by kernel_rfl
section
variable {E : Env} {w : World} {F : List HP} {b : Nat} {s : Bk}
theorem book_new_ok (key : Option (List UInt8)) (hk : ∀ k, key = some k → k.length = 16) (h : PH) : BookOk ⟨key, [], []⟩ [] [] h := ⟨rfl, rfl, by simp, by simp, hk⟩
set_option maxRecDepth 100000 in
set_option maxHeartbeats 1000000 in
theorem mac_new_ideal {k : List UInt8} (hw : Sat E w F) :
    Calls Try.prog 21 #[.int .i64 0, .agg (ybs k).toArray] w fun e w' => ∃ b, e = .returned (.tuple #[.pointer (some ⟨b, 0, none⟩), .int .i64 0]) ∧ Sat E w' (Book b ⟨none, [], []⟩ :: F) := by
  go_enter Try.func21, Try.ntmps21
  go_wp2_with (first
    | (refine wl_makeMap (ty := 74) hw (IsKey .string) ?_; clear hw; intro i w hw)
    | (refine wl_makeMap (ty := 75) hw (IsKey (.int .u64)) ?_; clear hw; intro f w hw)
    | (refine wl_build (t := 79) #[.nilIface, .slice none 0 0, .map (some i), .map (some f), .slice none 0 0] (by simp only [List.map_cons, List.map_nil, Act.eval, Act.put, List.setIfInBounds_toArray, List.set_cons_succ, List.set_cons_zero, gd_s, gd_0, U_cells, Y_cells, Value.cells]; exact rfl) (by kernel_rfl) ?_)
    | (refine wl_box hw _ (by simp only [Act.eval, Act.put, List.setIfInBounds_toArray, List.set_cons_succ, List.set_cons_zero, gd_s, gd_0, Value.cells]; exact rfl) ?_; clear hw; intro b w hw; (try simp only [List.set_cons_succ, List.set_cons_zero, List.setIfInBounds_toArray, Value.cells, List.eraseIdx_cons_succ, List.eraseIdx_cons_zero] at hw))
    | (refine wl_store1 hw rfl 0 rfl (.iface 81 (.agg #[])) rfl (by decide +kernel) (by simp) rfl ?_; clear hw; intro w hw; (try simp only [List.set_cons_succ, List.set_cons_zero, List.setIfInBounds_toArray, Value.cells, List.eraseIdx_cons_succ, List.eraseIdx_cons_zero] at hw)))
  go_ret2
  refine ⟨b, rfl, ?_⟩
  have hw := Mf_congr (hw.front 1 rfl) fFirst_nil
  (try simp only [List.set_cons_succ, List.set_cons_zero, List.setIfInBounds_toArray, Value.cells, List.eraseIdx_cons_succ, List.eraseIdx_cons_zero] at hw)
  have hw := Mf_congr (hw.front 2 rfl) fIndex_nil
  have hw := (Row_nil (e := 54) (sz := 2) (Row_nil (e := 60) (sz := 4) hw.arc_new))
  exact Book_shut (book_new_ok none (by simp) PH.nil) (i := i) (f := f) (v1 := .slice none 0 0) (v2 := .slice none 0 0) (Sat.gets hw (by repeat (first | exact Gets.nil | exact Gets.refl _ | refine Gets.get 0 rfl ?_ | refine Gets.get 1 rfl ?_ | refine Gets.get 2 rfl ?_ | refine Gets.get 3 rfl ?_ | refine Gets.get 4 rfl ?_ | refine Gets.get 5 rfl ?_ | refine Gets.get 6 rfl ?_ | refine Gets.get 7 rfl ?_ | refine Gets.get 8 rfl ?_ | refine Gets.get 9 rfl ?_ | refine Gets.drop ?_)))
set_option maxRecDepth 100000 in
set_option maxHeartbeats 1000000 in
theorem mac_new_keyed {k : List UInt8} (hw : Sat E w F) (hk : k.length = 16) :
    Calls Try.prog 21 #[.int .i64 1, .agg (ybs k).toArray] w fun e w' => ∃ b, e = .returned (.tuple #[.pointer (some ⟨b, 0, none⟩), .int .i64 0]) ∧ Sat E w' (Book b ⟨some k, [], []⟩ :: F) := by
  have hkb : (ybs k).toArray.size = 16 := by simp [ybs, hk]
  have bk := Kp.mk (build_key hk)
  go_enter Try.func21, Try.ntmps21
  go_wp2_with (first
    | (refine wl_makeMap (ty := 74) hw (IsKey .string) ?_; clear hw; intro i w hw)
    | (refine wl_makeMap (ty := 75) hw (IsKey (.int .u64)) ?_; clear hw; intro f w hw)
    | (refine wl_build (t := 79) #[.nilIface, .slice none 0 0, .map (some i), .map (some f), .slice none 0 0] (by simp only [List.map_cons, List.map_nil, Act.eval, Act.put, List.setIfInBounds_toArray, List.set_cons_succ, List.set_cons_zero, gd_s, gd_0, U_cells, Y_cells, Value.cells]; exact rfl) (by kernel_rfl) ?_)
    | (refine wl_build (t := 83) (ybs k).toArray rfl bk.out ?_)
    | (refine wl_load_all hw rfl 3 rfl (by rw [key_agg, hkb]) ?_)
    | (refine wl_box hw _ (by simp only [Act.eval, Act.put, List.setIfInBounds_toArray, List.set_cons_succ, List.set_cons_zero, gd_s, gd_0, Value.cells]; exact rfl) ?_; clear hw; intro b w hw; (try simp only [List.set_cons_succ, List.set_cons_zero, List.setIfInBounds_toArray, Value.cells, List.eraseIdx_cons_succ, List.eraseIdx_cons_zero] at hw))
    | (refine wl_store1 hw rfl 0 rfl (.iface 83 (.agg (ybs k).toArray)) rfl (by decide +kernel) (by simp) rfl ?_; clear hw; intro w hw; (try simp only [List.set_cons_succ, List.set_cons_zero, List.setIfInBounds_toArray, Value.cells, List.eraseIdx_cons_succ, List.eraseIdx_cons_zero] at hw)))
  go_ret2
  refine ⟨b, rfl, ?_⟩
  have hw := Mf_congr (hw.front 1 rfl) fFirst_nil
  (try simp only [List.set_cons_succ, List.set_cons_zero, List.setIfInBounds_toArray, Value.cells, List.eraseIdx_cons_succ, List.eraseIdx_cons_zero] at hw)
  have hw := Mf_congr (hw.front 2 rfl) fIndex_nil
  have hw := (Row_nil (e := 54) (sz := 2) (Row_nil (e := 60) (sz := 4) hw.arc_new))
  exact Book_shut (book_new_ok (some k) (by simp [hk]) PH.nil) (i := i) (f := f) (v1 := .slice none 0 0) (v2 := .slice none 0 0) (Sat.gets hw (by repeat (first | exact Gets.nil | exact Gets.refl _ | refine Gets.get 0 rfl ?_ | refine Gets.get 1 rfl ?_ | refine Gets.get 2 rfl ?_ | refine Gets.get 3 rfl ?_ | refine Gets.get 4 rfl ?_ | refine Gets.get 5 rfl ?_ | refine Gets.get 6 rfl ?_ | refine Gets.get 7 rfl ?_ | refine Gets.get 8 rfl ?_ | refine Gets.get 9 rfl ?_ | refine Gets.drop ?_)))
set_option maxRecDepth 100000 in
set_option maxHeartbeats 1000000 in
theorem mac_new_no {k : List UInt8} {kind : Int} (hw : Sat E w F) (h0 : (kind == 0) = false) (h1 : (kind == 1) = false) :
    Calls Try.prog 21 #[.int .i64 kind, .agg (ybs k).toArray] w fun e w' => e = .returned (.tuple #[.pointer none, .int .i64 1]) ∧ Sat E w' F := by
  go_enter Try.func21, Try.ntmps21
  go_wp2_with (first
    | (refine wl_makeMap (ty := 74) hw (IsKey .string) ?_; clear hw; intro i w hw)
    | (refine wl_makeMap (ty := 75) hw (IsKey (.int .u64)) ?_; clear hw; intro f w hw)
    | (refine wl_build (t := 79) #[.nilIface, .slice none 0 0, .map (some i), .map (some f), .slice none 0 0] (by simp only [List.map_cons, List.map_nil, Act.eval, Act.put, List.setIfInBounds_toArray, List.set_cons_succ, List.set_cons_zero, gd_s, gd_0, U_cells, Y_cells, Value.cells]; exact rfl) (by kernel_rfl) ?_)
    | (refine wl_box hw _ (by simp only [Act.eval, Act.put, List.setIfInBounds_toArray, List.set_cons_succ, List.set_cons_zero, gd_s, gd_0, Value.cells]; exact rfl) ?_; clear hw; intro b w hw; (try simp only [List.set_cons_succ, List.set_cons_zero, List.setIfInBounds_toArray, Value.cells, List.eraseIdx_cons_succ, List.eraseIdx_cons_zero] at hw)))
  go_ret2
  exact ⟨rfl, hw.tail.tail.tail.tail⟩
set_option maxRecDepth 100000 in
theorem fresh_ideal {v : Value} {A : Option Addr} {n c : Nat} {kv x2 x3 x4 : Value} {T : TypeId} {fr : Nat × Nat} (hw : Sat E w F) (j : Nat) (hj : F[j]? = some (pt b (.cells #[kv, .slice A n c, x2, x3, x4] T fr))) :
    Calls Try.prog 58 #[.agg #[], .pointer (some ⟨b, 0, none⟩), v] w fun e w' => e = .returned (U (BitVec.ofInt 64 (n : Int) + 1#64)) ∧ Sat E w' F := by
  go_enter Try.func58, Try.ntmps58
  go_wp2_with (first
    | (refine wl_box hw _ (by simp only [Act.eval, Act.put, List.setIfInBounds_toArray, List.set_cons_succ, List.set_cons_zero, gd_s, gd_0, Value.cells]; exact rfl) ?_; clear hw; intro b0 w hw; (try simp only [List.set_cons_succ, List.set_cons_zero, List.setIfInBounds_toArray, Value.cells, List.eraseIdx_cons_succ, List.eraseIdx_cons_zero] at hw))
    | (refine wl_load1 hw rfl (j + 1) hj (by decide +kernel) (v := .slice A n c) rfl ?_)
    | (refine wl_uint rfl u_int u_u64 ?_)
    | (refine wl_uadd (by first | exact rfl | (simp only [Act.eval, Act.put, List.setIfInBounds_toArray, List.set_cons_succ, List.set_cons_zero, gd_s, gd_0]; exact U_lit _ (by decide))) (by first | exact rfl | (simp only [Act.eval, Act.put, List.setIfInBounds_toArray, List.set_cons_succ, List.set_cons_zero, gd_s, gd_0]; exact U_lit _ (by decide))) ?_))
  go_ret
  exact ⟨rfl, hw.tail⟩
set_option maxRecDepth 100000 in
theorem fresh_keyed {v x : Value} {k m : List UInt8} (hw : Sat E w F) (hk : k.length = 16) (hR : ∀ w', Sat E w' F → Rd w' 1 v m.length (ybs m)) (hm : m.length ≤ 1000000) :
    Calls Try.prog 60 #[.agg (ybs k).toArray, x, v] w fun e w' => e = .returned (U (sumOf k m)) ∧ Sat E w' F := by
  have hkb : (ybs k).toArray.size = 16 := by simp [ybs, hk]
  have HR := Kp.mk hR
  clear hR
  go_enter Try.func60, Try.ntmps60
  go_wp2_with (first
    | (refine wl_box hw _ (by simp only [Act.eval, Act.put, List.setIfInBounds_toArray, List.set_cons_succ, List.set_cons_zero, gd_s, gd_0, Value.cells]; exact rfl) ?_; clear hw; intro b0 w hw; (try simp only [List.set_cons_succ, List.set_cons_zero, List.setIfInBounds_toArray, Value.cells, List.eraseIdx_cons_succ, List.eraseIdx_cons_zero] at hw))
    | (refine wl_load_all hw rfl 0 rfl (by rw [key_agg, hkb]) ?_)
    | (go_at_call 13; refine (Calls.mono (sip_Sum hw hk (fun w' hs => HR.out w' hs.tail) hm) ?_); clear hw; rintro e w ⟨rfl, hw⟩; (try simp only [List.set_cons_succ, List.set_cons_zero, List.setIfInBounds_toArray, Value.cells, List.eraseIdx_cons_succ, List.eraseIdx_cons_zero] at hw)))
  go_ret
  exact ⟨rfl, hw.tail⟩
set_option maxRecDepth 100000 in
theorem fits_keyed {v x : Value} {k m : List UInt8} {t : BitVec 64} (hw : Sat E w F) (hk : k.length = 16) (hR : ∀ w', Sat E w' F → Rd w' 1 v m.length (ybs m)) (hm : m.length ≤ 1000000) :
    Calls Try.prog 59 #[.agg (ybs k).toArray, x, v, U t] w fun e w' => e = .returned (.bool (sumOf k m == t)) ∧ Sat E w' F := by
  have hkb : (ybs k).toArray.size = 16 := by simp [ybs, hk]
  have HR := Kp.mk hR
  clear hR
  go_enter Try.func59, Try.ntmps59
  go_wp2_with (first
    | (refine wl_box hw _ (by simp only [Act.eval, Act.put, List.setIfInBounds_toArray, List.set_cons_succ, List.set_cons_zero, gd_s, gd_0, Value.cells]; exact rfl) ?_; clear hw; intro b0 w hw; (try simp only [List.set_cons_succ, List.set_cons_zero, List.setIfInBounds_toArray, Value.cells, List.eraseIdx_cons_succ, List.eraseIdx_cons_zero] at hw))
    | (refine wl_load_all hw rfl 0 rfl (by rw [key_agg, hkb]) ?_)
    | (go_at_call 13; refine (Calls.mono (sip_Sum hw hk (fun w' hs => HR.out w' hs.tail) hm) ?_); clear hw; rintro e w ⟨rfl, hw⟩; (try simp only [List.set_cons_succ, List.set_cons_zero, List.setIfInBounds_toArray, Value.cells, List.eraseIdx_cons_succ, List.eraseIdx_cons_zero] at hw))
    | (refine wl_ueql rfl rfl _ rfl ?_))
  go_ret
  exact ⟨rfl, hw.tail⟩
end
end Go.Proofs.Ytidkfjgelcpieaa
