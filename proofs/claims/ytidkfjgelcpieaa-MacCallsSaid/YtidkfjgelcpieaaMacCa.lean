/- The law MacCalls: any calls are answered as the document says. Conditions: none. -/
import Derived.Test.YtidkfjgelcpieaaMacCb
import Derived.Test.YtidkfjgelcpieaaMacQ
set_option linter.unusedVariables false
set_option linter.unusedSimpArgs false
namespace Go.Proofs.Ytidkfjgelcpieaa
open Go.RowKit Go.Bst Go.MapKept Go.Proofs.YtidkfjgelcpieaaW.PrintLast
attribute [local irreducible] sumOf wpList Calls Code.wp Code.wpN Oper.wp Go.Proofs.YtidkfjgelcpieaaW.PrintLast.wpAnyLast
set_option maxRecDepth 100000 in
set_option maxHeartbeats 4000000 in
theorem mac_calls_no {W : World} {v : Value} {kind : Int} {key : List UInt8} (hk : key.length = 16) (h0 : kind ≠ 0) (h1 : kind ≠ 1) :
    Calls Try.prog 10 #[.int .i64 kind, .agg (ybs key).toArray, v] W fun e w' => e = .returned (.bool true) ∧ Sat (World.env W) w' [Old W] := by
  have hw : Sat (World.env W) W [Old W] := Sat.init W
  have hkb : (ybs key).toArray.size = 16 := by simp [ybs, hk]
  have n0 := Kp.mk (show (kind != 0) = true by simp [h0])
  have n1 := Kp.mk (show (kind != 1) = true by simp [h1])
  have q0 := Kp.mk (show (kind == 0) = false by simp [h0])
  have q1 := Kp.mk (show (kind == 1) = false by simp [h1])
  clear h0 h1
  go_enter Try.func10, Try.ntmps10
  go_wp2_with (first
    | (refine wl_box hw _ (by simp only [Act.eval, Act.put, List.setIfInBounds_toArray, List.set_cons_succ, List.set_cons_zero, gd_s, gd_0, Value.cells]; exact rfl) ?_; clear hw; intro bx w hw; (try simp only [List.set_cons_succ, List.set_cons_zero, List.setIfInBounds_toArray, Value.cells, List.eraseIdx_cons_succ, List.eraseIdx_cons_zero] at hw))
    | (go_at_call 20; refine (mac_speaks hw).mono ?_; clear hw; rintro e w ⟨rfl, hw⟩)
    | (refine wl_load_all hw rfl 0 rfl (by rw [key_agg, hkb]) ?_)
    | (go_at_call 21; refine (mac_new_no (k := key) hw q0.out q1.out).mono ?_; clear hw; rintro e w ⟨rfl, hw⟩)
    | (refine wl_run (rn_ineqC (p := kind) (q := 0) rfl (by exact rfl) (by exact rfl) true n0.out) ?_)
    | (refine wl_want (by rfl) (fun K hK => ?_); refine wk_run (rn_ineqC (p := kind) (q := 1) rfl (by exact rfl) (by exact rfl) true n1.out) ?_; refine hK _ _ ?_; clear hK K))
  go_ret
  exact ⟨rfl, hw.tail⟩
end Go.Proofs.Ytidkfjgelcpieaa
