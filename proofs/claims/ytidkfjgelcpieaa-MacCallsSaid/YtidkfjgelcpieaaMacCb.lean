/- The document's book, made. Conditions: none. -/
import Derived.Test.YtidkfjgelcpieaaMacRv
set_option linter.unusedVariables false
set_option linter.unusedSimpArgs false
namespace Go.Proofs.Ytidkfjgelcpieaa
open Go.RowKit Go.Bst Go.MapKept Go.Proofs.YtidkfjgelcpieaaW.PrintLast
attribute [local irreducible] sumOf wpList Calls Code.wp Code.wpN Oper.wp Go.Proofs.YtidkfjgelcpieaaW.PrintLast.wpAnyLast
def rb0 (kd : Int) (k : List UInt8) : Array Value := #[.int .i64 kd] ++ (ybs k).toArray ++ #[.slice none 0 0, .slice none 0 0]
theorem build_rbook {kd : Int} : ∀ {k : List UInt8}, k.length = 16 → buildC Try.prog 64 [(0, #[.int .i64 kd]), (1, (ybs k).toArray)] = some (rb0 kd k)
  | [a0, a1, a2, a3, a4, a5, a6, a7, a8, a9, a10, a11, a12, a13, a14, a15], _ => by kernel_rfl
theorem rb0_cells {kd : Int} {k : List UInt8} (hk : k.length = 16) : RCs (rb0 kd k) kd k (.slice none 0 0) (.slice none 0 0) := by
  match k, hk with
  | [a0, a1, a2, a3, a4, a5, a6, a7, a8, a9, a10, a11, a12, a13, a14, a15], _ => exact ⟨by kernel_rfl, by kernel_rfl, by kernel_rfl, by kernel_rfl, by kernel_rfl⟩
section
variable {E : Env} {w : World} {F : List HP} {b : Nat} {kd : Int} {k : List UInt8}
theorem RBook_new (hw : Sat E w (pt b (.cells (rb0 kd k) 64 (0, 0)) :: F)) (hk : k.length = 16) (hc : kd = 0 ∨ kd = 1) : Sat E w (RBook b kd k ⟨keyOf kd k, [], []⟩ :: F) := by
  have hw := (Row_nil (e := 54) (sz := 2) (Row_nil (e := 60) (sz := 4) hw.arc_new))
  exact RBook_shut (cs := rb0 kd k) (ml := []) (bl := []) (h := PH.nil) (v1 := .slice none 0 0) (v2 := .slice none 0 0) ⟨rb0_cells hk, rfl, rfl, by simp [MarksOk], by simp [BadsOk], rfl, hk, hc⟩ (Sat.gets hw (by repeat (first | exact Gets.nil | exact Gets.refl _ | refine Gets.get 0 rfl ?_ | refine Gets.get 1 rfl ?_ | refine Gets.get 2 rfl ?_ | refine Gets.get 3 rfl ?_ | refine Gets.get 4 rfl ?_ | refine Gets.get 5 rfl ?_ | refine Gets.get 6 rfl ?_ | refine Gets.get 7 rfl ?_ | refine Gets.get 8 rfl ?_ | refine Gets.get 9 rfl ?_ | refine Gets.drop ?_)))
end
end Go.Proofs.Ytidkfjgelcpieaa
