/- What stands in memory, one behind the other: bastionref06.Parts, and its plain form. Conditions: none. -/
import Derived.Test.YtklhmlplabkoeaaPsh
import Derived.Test.YtklhmlplabkoeaaPlM
import Derived.Test.YtklhmlplabkoeaaActL
import Derived.Test.YtklhmlplabkoeaaProg
import Derived.Test.YtklhmlplabkoeaaRows
import Derived.Deep.Cut
set_option linter.unusedVariables false
set_option linter.unusedSimpArgs false
namespace Go.Proofs.Ytklhmlplabkoeaa
open Go.RowKit Go.Bst Go.MapKept Go.Proofs.YtklhmlplabkoeaaW.PrintLast
structure Itv where
  lev : Int
  idx : Int
def Itv.cs (x : Itv) : Array Value := #[.int .i64 x.lev, .int .i64 x.idx]
theorem Itv.size (x : Itv) : x.cs.size = 2 := rfl
theorem Itv.c0 (x : Itv) : x.cs[0]? = some (.int .i64 x.lev) := rfl
theorem Itv.s0 (x : Itv) (v : Int) : x.cs.setIfInBounds 0 (.int .i64 v) = ({ x with lev := v } : Itv).cs := rfl
theorem Itv.c1 (x : Itv) : x.cs[1]? = some (.int .i64 x.idx) := rfl
theorem Itv.s1 (x : Itv) (v : Int) : x.cs.setIfInBounds 1 (.int .i64 v) = ({ x with idx := v } : Itv).cs := rfl
theorem Itv.one (x : Itv)  : x.cs.all (·.oneCell') = true := by
  have e : ∀ k n, (Value.int k n).oneCell' = true := fun _ _ => rfl
  have e2 : ∀ b, (Value.bool b).oneCell' = true := fun _ => rfl
  unfold Itv.cs
  simp only [List.all_toArray, List.all_cons, List.all_nil, e, e2, U_one, Y_one, Bool.and_true]
def Itv.zero : Itv := ⟨0, 0⟩
def Itv.K : List SK := [.int .i64, .int .i64]
theorem Itv.fit {x : Itv} (hlev : i64B x.lev) (hidx : i64B x.idx) : fitAll Itv.K x.cs.toList := by unfold Itv.cs; exact ⟨fits_i64 hlev, fits_i64 hidx, trivial⟩
theorem Itv.zro : zeroOf Try.prog 67 = some (.agg Itv.zero.cs) := by kernel_rfl
theorem Itv.agz : aggSize Try.prog 67 = some 2 := by kernel_rfl
theorem Itv.row : (Try.prog.info? 67).map (fun i => (i.zero, i.size, i.bytes)) = some (some (.agg Itv.zero.cs), 2, 16) := by kernel_rfl
theorem Itv.inf : (Try.prog.info? 67).map (·.size) = some 2 := by kernel_rfl
theorem Itv.kinds : skinds Try.prog 9 67 = some Itv.K := by kernel_rfl
theorem Itv.sm : aggSize Try.prog 67 ≠ none := by rw [Itv.agz]; simp
theorem Itv.eqg : Try.prog.eqGuardType Try.prog.depth 67 = false := by kernel_rfl
attribute [irreducible] Itv.cs
structure Plc where
  kind : Int
  line : Int
  lev : Int
  idx : Int
  off : Int
def Plc.cs (x : Plc) : Array Value := #[.int .i64 x.kind, .int .i64 x.line, .int .i64 x.lev, .int .i64 x.idx, .int .i64 x.off]
theorem Plc.size (x : Plc) : x.cs.size = 5 := rfl
theorem Plc.c0 (x : Plc) : x.cs[0]? = some (.int .i64 x.kind) := rfl
theorem Plc.s0 (x : Plc) (v : Int) : x.cs.setIfInBounds 0 (.int .i64 v) = ({ x with kind := v } : Plc).cs := rfl
theorem Plc.c1 (x : Plc) : x.cs[1]? = some (.int .i64 x.line) := rfl
theorem Plc.s1 (x : Plc) (v : Int) : x.cs.setIfInBounds 1 (.int .i64 v) = ({ x with line := v } : Plc).cs := rfl
theorem Plc.c2 (x : Plc) : x.cs[2]? = some (.int .i64 x.lev) := rfl
theorem Plc.s2 (x : Plc) (v : Int) : x.cs.setIfInBounds 2 (.int .i64 v) = ({ x with lev := v } : Plc).cs := rfl
theorem Plc.c3 (x : Plc) : x.cs[3]? = some (.int .i64 x.idx) := rfl
theorem Plc.s3 (x : Plc) (v : Int) : x.cs.setIfInBounds 3 (.int .i64 v) = ({ x with idx := v } : Plc).cs := rfl
theorem Plc.c4 (x : Plc) : x.cs[4]? = some (.int .i64 x.off) := rfl
theorem Plc.s4 (x : Plc) (v : Int) : x.cs.setIfInBounds 4 (.int .i64 v) = ({ x with off := v } : Plc).cs := rfl
theorem Plc.one (x : Plc)  : x.cs.all (·.oneCell') = true := by
  have e : ∀ k n, (Value.int k n).oneCell' = true := fun _ _ => rfl
  have e2 : ∀ b, (Value.bool b).oneCell' = true := fun _ => rfl
  unfold Plc.cs
  simp only [List.all_toArray, List.all_cons, List.all_nil, e, e2, U_one, Y_one, Bool.and_true]
def Plc.zero : Plc := ⟨0, 0, 0, 0, 0⟩
theorem Plc.x2 (x : Plc) : x.cs.extract 2 (2 + 2) = (Itv.mk x.lev x.idx).cs := by unfold Plc.cs Itv.cs; rfl
theorem Plc.p2 (x : Plc) (y : Itv) : splice x.cs 2 y.cs = ({ x with lev := y.lev, idx := y.idx } : Plc).cs := by unfold Plc.cs Itv.cs; rfl
def Plc.K : List SK := [.int .i64, .int .i64, .int .i64, .int .i64, .int .i64]
theorem Plc.fit {x : Plc} (hkind : i64B x.kind) (hline : i64B x.line) (hlev : i64B x.lev) (hidx : i64B x.idx) (hoff : i64B x.off) : fitAll Plc.K x.cs.toList := by unfold Plc.cs; exact ⟨fits_i64 hkind, fits_i64 hline, fits_i64 hlev, fits_i64 hidx, fits_i64 hoff, trivial⟩
theorem Plc.zro : zeroOf Try.prog 69 = some (.agg Plc.zero.cs) := by kernel_rfl
theorem Plc.agz : aggSize Try.prog 69 = some 5 := by kernel_rfl
theorem Plc.row : (Try.prog.info? 69).map (fun i => (i.zero, i.size, i.bytes)) = some (some (.agg Plc.zero.cs), 5, 40) := by kernel_rfl
theorem Plc.inf : (Try.prog.info? 69).map (·.size) = some 5 := by kernel_rfl
theorem Plc.kinds : skinds Try.prog 9 69 = some Plc.K := by kernel_rfl
theorem Plc.sm : aggSize Try.prog 69 ≠ none := by rw [Plc.agz]; simp
theorem Plc.eqg : Try.prog.eqGuardType Try.prog.depth 69 = false := by kernel_rfl
attribute [irreducible] Plc.cs
structure Prt where
  kind : Int
  line : Int
  lev : Int
  idx : Int
  off : Int
  at_ : Int
  n : Int
def Prt.cs (x : Prt) : Array Value := #[.int .i64 x.kind, .int .i64 x.line, .int .i64 x.lev, .int .i64 x.idx, .int .i64 x.off, .int .i64 x.at_, .int .i64 x.n]
theorem Prt.size (x : Prt) : x.cs.size = 7 := rfl
theorem Prt.c0 (x : Prt) : x.cs[0]? = some (.int .i64 x.kind) := rfl
theorem Prt.s0 (x : Prt) (v : Int) : x.cs.setIfInBounds 0 (.int .i64 v) = ({ x with kind := v } : Prt).cs := rfl
theorem Prt.c1 (x : Prt) : x.cs[1]? = some (.int .i64 x.line) := rfl
theorem Prt.s1 (x : Prt) (v : Int) : x.cs.setIfInBounds 1 (.int .i64 v) = ({ x with line := v } : Prt).cs := rfl
theorem Prt.c2 (x : Prt) : x.cs[2]? = some (.int .i64 x.lev) := rfl
theorem Prt.s2 (x : Prt) (v : Int) : x.cs.setIfInBounds 2 (.int .i64 v) = ({ x with lev := v } : Prt).cs := rfl
theorem Prt.c3 (x : Prt) : x.cs[3]? = some (.int .i64 x.idx) := rfl
theorem Prt.s3 (x : Prt) (v : Int) : x.cs.setIfInBounds 3 (.int .i64 v) = ({ x with idx := v } : Prt).cs := rfl
theorem Prt.c4 (x : Prt) : x.cs[4]? = some (.int .i64 x.off) := rfl
theorem Prt.s4 (x : Prt) (v : Int) : x.cs.setIfInBounds 4 (.int .i64 v) = ({ x with off := v } : Prt).cs := rfl
theorem Prt.c5 (x : Prt) : x.cs[5]? = some (.int .i64 x.at_) := rfl
theorem Prt.s5 (x : Prt) (v : Int) : x.cs.setIfInBounds 5 (.int .i64 v) = ({ x with at_ := v } : Prt).cs := rfl
theorem Prt.c6 (x : Prt) : x.cs[6]? = some (.int .i64 x.n) := rfl
theorem Prt.s6 (x : Prt) (v : Int) : x.cs.setIfInBounds 6 (.int .i64 v) = ({ x with n := v } : Prt).cs := rfl
theorem Prt.one (x : Prt)  : x.cs.all (·.oneCell') = true := by
  have e : ∀ k n, (Value.int k n).oneCell' = true := fun _ _ => rfl
  have e2 : ∀ b, (Value.bool b).oneCell' = true := fun _ => rfl
  unfold Prt.cs
  simp only [List.all_toArray, List.all_cons, List.all_nil, e, e2, U_one, Y_one, Bool.and_true]
def Prt.zero : Prt := ⟨0, 0, 0, 0, 0, 0, 0⟩
theorem Prt.x0 (x : Prt) : x.cs.extract 0 (0 + 5) = (Plc.mk x.kind x.line x.lev x.idx x.off).cs := by unfold Prt.cs Plc.cs; rfl
theorem Prt.p0 (x : Prt) (y : Plc) : splice x.cs 0 y.cs = ({ x with kind := y.kind, line := y.line, lev := y.lev, idx := y.idx, off := y.off } : Prt).cs := by unfold Prt.cs Plc.cs; rfl
def Prt.K : List SK := [.int .i64, .int .i64, .int .i64, .int .i64, .int .i64, .int .i64, .int .i64]
theorem Prt.fit {x : Prt} (hkind : i64B x.kind) (hline : i64B x.line) (hlev : i64B x.lev) (hidx : i64B x.idx) (hoff : i64B x.off) (hat_ : i64B x.at_) (hn : i64B x.n) : fitAll Prt.K x.cs.toList := by unfold Prt.cs; exact ⟨fits_i64 hkind, fits_i64 hline, fits_i64 hlev, fits_i64 hidx, fits_i64 hoff, fits_i64 hat_, fits_i64 hn, trivial⟩
theorem Prt.zro : zeroOf Try.prog 100 = some (.agg Prt.zero.cs) := by kernel_rfl
theorem Prt.agz : aggSize Try.prog 100 = some 7 := by kernel_rfl
theorem Prt.row : (Try.prog.info? 100).map (fun i => (i.zero, i.size, i.bytes)) = some (some (.agg Prt.zero.cs), 7, 56) := by kernel_rfl
theorem Prt.inf : (Try.prog.info? 100).map (·.size) = some 7 := by kernel_rfl
theorem Prt.kinds : skinds Try.prog 9 100 = some Prt.K := by kernel_rfl
theorem Prt.sm : aggSize Try.prog 100 ≠ none := by rw [Prt.agz]; simp
theorem Prt.eqg : Try.prog.eqGuardType Try.prog.depth 100 = false := by kernel_rfl
attribute [irreducible] Prt.cs
theorem Itv.b0_1 (a0 : Int) (a1 : Int) : buildC Try.prog 67 [(0, #[.int .i64 a0]), (1, #[.int .i64 a1])] = some (({ Itv.zero with lev := a0, idx := a1 } : Itv).cs) := by unfold Itv.cs; kernel_rfl
theorem Plc.b  : buildC Try.prog 69 [] = some ((Plc.zero : Plc).cs) := by unfold Plc.cs; kernel_rfl
theorem Plc.b0_1 (a0 : Int) (a1 : Int) : buildC Try.prog 69 [(0, #[.int .i64 a0]), (1, #[.int .i64 a1])] = some (({ Plc.zero with kind := a0, line := a1 } : Plc).cs) := by unfold Plc.cs; kernel_rfl
theorem Plc.b0_2 (a0 : Int) (y2 : Itv) : buildC Try.prog 69 [(0, #[.int .i64 a0]), (2, y2.cs)] = some (({ Plc.zero with kind := a0, lev := y2.lev, idx := y2.idx } : Plc).cs) := by unfold Plc.cs Itv.cs; kernel_rfl
theorem Prt.b0_1_2 (y0 : Plc) (a1 : Int) (a2 : Int) : buildC Try.prog 100 [(0, y0.cs), (1, #[.int .i64 a1]), (2, #[.int .i64 a2])] = some (({ Prt.zero with kind := y0.kind, line := y0.line, lev := y0.lev, idx := y0.idx, off := y0.off, at_ := a1, n := a2 } : Prt).cs) := by unfold Prt.cs Plc.cs; kernel_rfl
def dataP (i : Nat) : Prt := ⟨1, i, 0, 0, 0, (32 * i : Nat), 32⟩
def tagP (a i : Nat) : Prt := ⟨2, i, 0, 0, 0, (32 * a + 8 * i : Nat), 8⟩
def itP (a l s i : Nat) : Prt := ⟨3, 0, l, i, 0, (40 * a + 32 * (s + i) : Nat), 32⟩
def itL (a l s n : Nat) : List Prt := (List.range n).map (itP a l s)
/-- The items of the first m levels. -/
def sumW (ws : List Nat) (m : Nat) : Nat := (ws.take m).sum
def itsL (a : Nat) (ws : List Nat) (m : Nat) : List Prt := (List.range m).flatMap fun l => itL a l (sumW ws l) (ws.getD l 0)
def dtL (a : Nat) : List Prt := (List.range a).map dataP ++ (List.range a).map (tagP a)
def allN (p : Pl) : Nat := (allI p).toNat
def partsL (p : Pl) : List Prt := if rightB p then dtL (allN p) ++ itsL (allN p) (wsOf p) (wsOf p).length else []
theorem sumW_succ {ws : List Nat} {m : Nat} : sumW ws (m + 1) = sumW ws m + ws.getD m 0 := by
  unfold sumW
  rw [List.take_add_one, List.sum_append]
  congr 1
  rw [List.getD_eq_getElem?_getD]
  cases ws[m]? <;> simp
theorem itsL_succ {a : Nat} {ws : List Nat} {m : Nat} : itsL a ws (m + 1) = itsL a ws m ++ itL a m (sumW ws m) (ws.getD m 0) := by
  unfold itsL; rw [List.range_succ, List.flatMap_append]; simp
theorem range_snoc {α : Type} (f : Nat → α) (k : Nat) : (List.range k).map f ++ [f k] = (List.range (k + 1)).map f := by rw [List.range_succ, List.map_append]; rfl
theorem snocR {α : Type} {E : Env} {w : World} {el : TypeId} {sz n k : Nat} {v : Value} {f : α → Array Value} {g : Nat → α} {x : α} {l : List α} {H : List HP} (s : Sat E w (RowN el sz v n f ((l ++ (List.range k).map g) ++ [x]) :: H)) (hx : x = g k) : Sat E w (RowN el sz v n f (l ++ (List.range (k + 1)).map g) :: H) := by
  subst hx; rw [List.append_assoc, range_snoc] at s; exact s
theorem sumW_le {ws : List Nat} (h : ∀ x ∈ ws, x ≤ 16) (m : Nat) : sumW ws m ≤ 16 * ws.length := by
  unfold sumW
  have : ∀ l : List Nat, (∀ x ∈ l, x ≤ 16) → l.sum ≤ 16 * l.length := by
    intro l
    induction l with
    | nil => simp
    | cons x l ih => intro hl; have h1 := hl x (by simp); have h2 := ih (fun y hy => hl y (by simp [hy])); simp only [List.sum_cons, List.length_cons]; omega
  have h1 := this (ws.take m) (fun x hx => h x (List.mem_of_mem_take hx))
  have h2 : (ws.take m).length ≤ ws.length := by rw [List.length_take]; omega
  omega
theorem ws_mem {p : Pl} (h : shB p = true) : ∀ x ∈ wsOf p, x ≤ 16 := by
  intro x hx
  obtain ⟨i, hi, rfl⟩ := List.mem_iff_getElem.1 hx
  have := (wd_step h i hi).2.1
  rw [wd_at h i, List.getD_eq_getElem?_getD, List.getElem?_eq_getElem hi, Option.getD_some] at this
  omega
section
variable {E : Env} {w : World} {F : List HP} {p : Pl}
attribute [local irreducible] wpList Calls Code.wp Code.wpN Oper.wp Go.Proofs.YtklhmlplabkoeaaW.PrintLast.wpAnyLast
set_option maxRecDepth 100000 in
set_option maxHeartbeats 16000000 in
theorem ref_Parts (hw : Sat E w F) (hp : p.Ok) : Calls Try.prog 38 #[.agg p.cs] w fun e w' => ∃ A c, e = .returned (.slice A (partsL p).length c) ∧ Sat E w' (RowN 100 7 (.slice A (partsL p).length c) (partsL p).length Prt.cs (partsL p) :: F) := by
  cases hrt : rightB p with
  | false =>
    have e := Kp.mk (show partsL p = [] by unfold partsL; rw [hrt]; rfl)
    have HT := Kp.mk hrt
    clear hrt
    go_enter Try.func38, Try.ntmps38
    go_wp2_with (first
      | (go_at_call 20; go_must (refine (Calls.mono (ref_right (p := p) hw hp) ?_)); clear hw; rintro e w ⟨rfl, hw⟩; rw [HT.out]; (try simp only [List.set_cons_succ, List.set_cons_zero, List.setIfInBounds_toArray, Value.cells, List.eraseIdx_cons_succ, List.eraseIdx_cons_zero] at hw))
      | (refine wl_lit0 (el := 100) (sz := 7) hw (by kernel_rfl) (by kernel_rfl) ?_; clear hw; intro bz w hw; (try simp only [List.set_cons_succ, List.set_cons_zero, List.setIfInBounds_toArray, Value.cells, List.eraseIdx_cons_succ, List.eraseIdx_cons_zero] at hw))
      | (refine wl_box (d := some 1) hw _ (by simp only [Act.eval, Act.put, List.setIfInBounds_toArray, List.set_cons_succ, List.set_cons_zero, gd_s, gd_0, Value.cells]; exact rfl) ?_; clear hw; intro b1 w hw; (try simp only [List.set_cons_succ, List.set_cons_zero, List.setIfInBounds_toArray, Value.cells, List.eraseIdx_cons_succ, List.eraseIdx_cons_zero] at hw)) | (refine wb_loadA (d := some 10)  rfl (by first | exact hw.read 0 rfl | exact hw.read 1 rfl | exact hw.read 2 rfl | exact hw.read 3 rfl | exact hw.read 4 rfl | exact hw.read 5 rfl | exact hw.read 6 rfl | exact hw.read 7 rfl | exact hw.read 8 rfl) (by rw [plan_agg, Pl.size]) ?_))
    go_ret
    rw [e.out]
    exact ⟨_, _, rfl, (Sat.gets hw (by repeat (first | exact Gets.nil | exact Gets.refl _ | refine Gets.get 0 rfl ?_ | refine Gets.get 1 rfl ?_ | refine Gets.get 2 rfl ?_ | refine Gets.get 3 rfl ?_ | refine Gets.get 4 rfl ?_ | refine Gets.get 5 rfl ?_ | refine Gets.get 6 rfl ?_ | refine Gets.get 7 rfl ?_ | refine Gets.get 8 rfl ?_ | refine Gets.get 9 rfl ?_ | refine Gets.drop ?_)))⟩
  | true =>
    have hsh := (rightB_iff.1 hrt).1
    have hal : Kp (p.pages * p.lines = (allN p : Int)) := Kp.mk (by
      have h1 := (allI_in hrt).1
      unfold allN
      rw [Int.toNat_of_nonneg (by omega)]
      unfold allI; rw [if_pos hsh])
    have hal128 : allN p ≤ 128 := by have h1 := allI_in hrt; unfold allN; omega
    have e := Kp.mk (show partsL p = dtL (allN p) ++ itsL (allN p) (wsOf p) (wsOf p).length by unfold partsL; rw [if_pos hrt])
    have hsW := sumW_le (ws_mem hsh)
    have hwl := ws_len hsh
    have HS := Kp.mk hsh
    have HT := Kp.mk hrt
    clear hrt
    have u5 := hwl.2
    obtain ⟨N, hN⟩ : ∃ N, allN p = N := ⟨_, rfl⟩
    rw [hN] at hal hal128 e
    clear hN
    go_enter Try.func38, Try.ntmps38
    go_wp2_with (first
      | (go_at_call 20; go_must (refine (Calls.mono (ref_right (p := p) hw hp) ?_)); clear hw; rintro e w ⟨rfl, hw⟩; rw [HT.out]; (try simp only [List.set_cons_succ, List.set_cons_zero, List.setIfInBounds_toArray, Value.cells, List.eraseIdx_cons_succ, List.eraseIdx_cons_zero] at hw))
      | (refine wl_lit0 (el := 100) (sz := 7) hw (by kernel_rfl) (by kernel_rfl) ?_; clear hw; intro bz w hw; (try simp only [List.set_cons_succ, List.set_cons_zero, List.setIfInBounds_toArray, Value.cells, List.eraseIdx_cons_succ, List.eraseIdx_cons_zero] at hw))
      | (refine wl_box (d := some 1) hw _ (by simp only [Act.eval, Act.put, List.setIfInBounds_toArray, List.set_cons_succ, List.set_cons_zero, gd_s, gd_0, Value.cells]; exact rfl) ?_; clear hw; intro b1 w hw; (try simp only [List.set_cons_succ, List.set_cons_zero, List.setIfInBounds_toArray, Value.cells, List.eraseIdx_cons_succ, List.eraseIdx_cons_zero] at hw)) | (refine wb_loadA (d := some 10)  rfl (by first | exact hw.read 0 rfl | exact hw.read 1 rfl | exact hw.read 2 rfl | exact hw.read 3 rfl | exact hw.read 4 rfl | exact hw.read 5 rfl | exact hw.read 6 rfl | exact hw.read 7 rfl | exact hw.read 8 rfl) (by rw [plan_agg, Pl.size]) ?_))
    go_loopw [3, 4, 5] (fun o at_ i wr => ∃ (k : Nat) (A : Option Addr) (c : Nat), k ≤ N ∧ i = .int .i64 k ∧ at_ = .int .i64 (32 * k : Nat) ∧ o = .slice A k c ∧ Sat E wr (RowN 100 7 (.slice A k c) k Prt.cs ([] ++ (List.range k).map dataP) :: pt b1 (.cells p.cs 28 (0, 0)) :: F)) (fun _ _ i _ => N - (intOf i).toNat)
    case atStart => exact ⟨0, _, _, by omega, rfl, rfl, rfl, hw⟩
    case round =>
      clear hw
      obtain ⟨k, A, c, hk, rfl, rfl, rfl, hw⟩ := hrel
      by_cases hlt : k < N
      · go_wp2_with (first
          | (refine wl_run (rn_cmul rfl (by exact rfl) (by exact rfl) _ hal.out (by omega)) ?_)
          | (refine wb_load1 (d := some 16)  rfl (by first | exact hw.read 0 rfl | exact hw.read 1 rfl | exact hw.read 2 rfl | exact hw.read 3 rfl | exact hw.read 4 rfl | exact hw.read 5 rfl | exact hw.read 6 rfl | exact hw.read 7 rfl | exact hw.read 8 rfl) (by decide +kernel) (by exact Pl.c2 _) ?_) | (refine wb_load1 (d := some 18)  rfl (by first | exact hw.read 0 rfl | exact hw.read 1 rfl | exact hw.read 2 rfl | exact hw.read 3 rfl | exact hw.read 4 rfl | exact hw.read 5 rfl | exact hw.read 6 rfl | exact hw.read 7 rfl | exact hw.read 8 rfl) (by decide +kernel) (by exact Pl.c3 _) ?_) | (refine wl_run (d := some 19) (rn_cmul rfl (by exact rfl) (by exact rfl) _ rfl (by omega)) ?_) | (refine wl_run (d := some 20) (rn_clss rfl (by exact rfl) (by exact rfl) true (decide_eq_true (by omega))) ?_) | (refine wl_run (d := some 20) (rn_clss rfl (by exact rfl) (by exact rfl) false (decide_eq_false (by omega))) ?_) | (refine wl_run (d := some 22) (rn_cadd rfl (by exact rfl) (by exact rfl) _ rfl (by omega)) ?_) | (refine wl_run (d := some 25) (rn_build _ rfl (by simp only [List.map_cons, List.map_nil, Act.eval, Act.put, List.setIfInBounds_toArray, List.set_cons_succ, List.set_cons_zero, gd_s, gd_0, U_cells, Y_cells, Value.cells]; exact rfl) (by exact Plc.b0_1 ..)) ?_) | (refine wl_run (d := some 27) (rn_build _ rfl (by simp only [List.map_cons, List.map_nil, Act.eval, Act.put, List.setIfInBounds_toArray, List.set_cons_succ, List.set_cons_zero, gd_s, gd_0, U_cells, Y_cells, Value.cells]; exact rfl) (by exact Prt.b0_1_2 ..)) ?_) | (refine wl_lit1 (d := some 28)  (el := 100) (sz := 7) hw (by simp only [Act.eval, Act.put, List.setIfInBounds_toArray, List.set_cons_succ, List.set_cons_zero, gd_s, gd_0, Value.cells]; exact rfl) (by kernel_rfl) (by kernel_rfl) (by kernel_rfl) (by exact Prt.size _) (by omega) (by omega) ?_; clear hw; intro bL w hw; (try simp only [List.set_cons_succ, List.set_cons_zero, List.setIfInBounds_toArray, Value.cells, List.eraseIdx_cons_succ, List.eraseIdx_cons_zero] at hw)) | (refine wl_push (d := some 29)  (f := Prt.cs) hw 0 rfl rfl rfl (by kernel_rfl) Prt.row (by exact Prt.size _) (by decide) (by exact Prt.size _) (by exact Prt.one _) (by omega) (by decide) ?_; clear hw; intro A c w hw; (try simp only [List.set_cons_succ, List.set_cons_zero, List.setIfInBounds_toArray, Value.cells, List.eraseIdx_cons_succ, List.eraseIdx_cons_zero] at hw)) | (refine wl_push (d := some 29)  (f := Prt.cs) hw 1 rfl rfl rfl (by kernel_rfl) Prt.row (by exact Prt.size _) (by decide) (by exact Prt.size _) (by exact Prt.one _) (by omega) (by decide) ?_; clear hw; intro A c w hw; (try simp only [List.set_cons_succ, List.set_cons_zero, List.setIfInBounds_toArray, Value.cells, List.eraseIdx_cons_succ, List.eraseIdx_cons_zero] at hw)) | (refine wl_push (d := some 29)  (f := Prt.cs) hw 2 rfl rfl rfl (by kernel_rfl) Prt.row (by exact Prt.size _) (by decide) (by exact Prt.size _) (by exact Prt.one _) (by omega) (by decide) ?_; clear hw; intro A c w hw; (try simp only [List.set_cons_succ, List.set_cons_zero, List.setIfInBounds_toArray, Value.cells, List.eraseIdx_cons_succ, List.eraseIdx_cons_zero] at hw)) | (refine wl_push (d := some 29)  (f := Prt.cs) hw 3 rfl rfl rfl (by kernel_rfl) Prt.row (by exact Prt.size _) (by decide) (by exact Prt.size _) (by exact Prt.one _) (by omega) (by decide) ?_; clear hw; intro A c w hw; (try simp only [List.set_cons_succ, List.set_cons_zero, List.setIfInBounds_toArray, Value.cells, List.eraseIdx_cons_succ, List.eraseIdx_cons_zero] at hw)) | (refine wl_run (d := some 31) (rn_cadd rfl (by exact rfl) (by exact rfl) _ rfl (by omega)) ?_))
        replace hw := snocR (g := dataP) hw rfl
        go_roundw
        case rel => exact ⟨k + 1, _, _, by omega, by go_num, by go_num, rfl, hw⟩
        case measure => simp [intOf]; omega
      · obtain rfl : N = k := by omega
        rw [List.nil_append] at hw
        go_wp2_with (first
          | (refine wl_run (rn_cmul rfl (by exact rfl) (by exact rfl) _ hal.out (by omega)) ?_)
          | (refine wb_load1 (d := some 16)  rfl (by first | exact hw.read 0 rfl | exact hw.read 1 rfl | exact hw.read 2 rfl | exact hw.read 3 rfl | exact hw.read 4 rfl | exact hw.read 5 rfl | exact hw.read 6 rfl | exact hw.read 7 rfl | exact hw.read 8 rfl) (by decide +kernel) (by exact Pl.c2 _) ?_) | (refine wb_load1 (d := some 18)  rfl (by first | exact hw.read 0 rfl | exact hw.read 1 rfl | exact hw.read 2 rfl | exact hw.read 3 rfl | exact hw.read 4 rfl | exact hw.read 5 rfl | exact hw.read 6 rfl | exact hw.read 7 rfl | exact hw.read 8 rfl) (by decide +kernel) (by exact Pl.c3 _) ?_) | (refine wl_run (d := some 19) (rn_cmul rfl (by exact rfl) (by exact rfl) _ rfl (by omega)) ?_) | (refine wl_run (d := some 20) (rn_clss rfl (by exact rfl) (by exact rfl) true (decide_eq_true (by omega))) ?_) | (refine wl_run (d := some 20) (rn_clss rfl (by exact rfl) (by exact rfl) false (decide_eq_false (by omega))) ?_))
        go_loopw [3, 4, 6] (fun o at_ i wr => ∃ (k : Nat) (A : Option Addr) (c : Nat), k ≤ N ∧ i = .int .i64 k ∧ at_ = .int .i64 (32 * N + 8 * k : Nat) ∧ o = .slice A (N + k) c ∧ Sat E wr (RowN 100 7 (.slice A (N + k) c) (N + k) Prt.cs ((List.range N).map dataP ++ (List.range k).map (tagP N)) :: pt b1 (.cells p.cs 28 (0, 0)) :: F)) (fun _ _ i _ => N - (intOf i).toNat)
        case atStart => exact ⟨0, _, _, by omega, rfl, by go_num, rfl, by rw [List.range_zero, List.map_nil, List.append_nil]; exact hw⟩
        case round =>
          clear hw
          obtain ⟨k, A, c, hk, rfl, rfl, rfl, hw⟩ := hrel
          by_cases hlt : k < N
          · go_wp2_with (first
              | (refine wl_run (rn_cmul rfl (by exact rfl) (by exact rfl) _ hal.out (by omega)) ?_)
              | (refine wb_load1 (d := some 34)  rfl (by first | exact hw.read 0 rfl | exact hw.read 1 rfl | exact hw.read 2 rfl | exact hw.read 3 rfl | exact hw.read 4 rfl | exact hw.read 5 rfl | exact hw.read 6 rfl | exact hw.read 7 rfl | exact hw.read 8 rfl) (by decide +kernel) (by exact Pl.c2 _) ?_) | (refine wb_load1 (d := some 36)  rfl (by first | exact hw.read 0 rfl | exact hw.read 1 rfl | exact hw.read 2 rfl | exact hw.read 3 rfl | exact hw.read 4 rfl | exact hw.read 5 rfl | exact hw.read 6 rfl | exact hw.read 7 rfl | exact hw.read 8 rfl) (by decide +kernel) (by exact Pl.c3 _) ?_) | (refine wl_run (d := some 37) (rn_cmul rfl (by exact rfl) (by exact rfl) _ rfl (by omega)) ?_) | (refine wl_run (d := some 38) (rn_clss rfl (by exact rfl) (by exact rfl) true (decide_eq_true (by omega))) ?_) | (refine wl_run (d := some 38) (rn_clss rfl (by exact rfl) (by exact rfl) false (decide_eq_false (by omega))) ?_) | (refine wl_run (d := some 40) (rn_cadd rfl (by exact rfl) (by exact rfl) _ rfl (by omega)) ?_) | (refine wl_run (d := some 43) (rn_build _ rfl (by simp only [List.map_cons, List.map_nil, Act.eval, Act.put, List.setIfInBounds_toArray, List.set_cons_succ, List.set_cons_zero, gd_s, gd_0, U_cells, Y_cells, Value.cells]; exact rfl) (by exact Plc.b0_1 ..)) ?_) | (refine wl_run (d := some 45) (rn_build _ rfl (by simp only [List.map_cons, List.map_nil, Act.eval, Act.put, List.setIfInBounds_toArray, List.set_cons_succ, List.set_cons_zero, gd_s, gd_0, U_cells, Y_cells, Value.cells]; exact rfl) (by exact Prt.b0_1_2 ..)) ?_) | (refine wl_lit1 (d := some 46)  (el := 100) (sz := 7) hw (by simp only [Act.eval, Act.put, List.setIfInBounds_toArray, List.set_cons_succ, List.set_cons_zero, gd_s, gd_0, Value.cells]; exact rfl) (by kernel_rfl) (by kernel_rfl) (by kernel_rfl) (by exact Prt.size _) (by omega) (by omega) ?_; clear hw; intro bL w hw; (try simp only [List.set_cons_succ, List.set_cons_zero, List.setIfInBounds_toArray, Value.cells, List.eraseIdx_cons_succ, List.eraseIdx_cons_zero] at hw)) | (refine wl_push (d := some 47)  (f := Prt.cs) hw 0 rfl rfl rfl (by kernel_rfl) Prt.row (by exact Prt.size _) (by decide) (by exact Prt.size _) (by exact Prt.one _) (by omega) (by decide) ?_; clear hw; intro A c w hw; (try simp only [List.set_cons_succ, List.set_cons_zero, List.setIfInBounds_toArray, Value.cells, List.eraseIdx_cons_succ, List.eraseIdx_cons_zero] at hw)) | (refine wl_push (d := some 47)  (f := Prt.cs) hw 1 rfl rfl rfl (by kernel_rfl) Prt.row (by exact Prt.size _) (by decide) (by exact Prt.size _) (by exact Prt.one _) (by omega) (by decide) ?_; clear hw; intro A c w hw; (try simp only [List.set_cons_succ, List.set_cons_zero, List.setIfInBounds_toArray, Value.cells, List.eraseIdx_cons_succ, List.eraseIdx_cons_zero] at hw)) | (refine wl_push (d := some 47)  (f := Prt.cs) hw 2 rfl rfl rfl (by kernel_rfl) Prt.row (by exact Prt.size _) (by decide) (by exact Prt.size _) (by exact Prt.one _) (by omega) (by decide) ?_; clear hw; intro A c w hw; (try simp only [List.set_cons_succ, List.set_cons_zero, List.setIfInBounds_toArray, Value.cells, List.eraseIdx_cons_succ, List.eraseIdx_cons_zero] at hw)) | (refine wl_push (d := some 47)  (f := Prt.cs) hw 3 rfl rfl rfl (by kernel_rfl) Prt.row (by exact Prt.size _) (by decide) (by exact Prt.size _) (by exact Prt.one _) (by omega) (by decide) ?_; clear hw; intro A c w hw; (try simp only [List.set_cons_succ, List.set_cons_zero, List.setIfInBounds_toArray, Value.cells, List.eraseIdx_cons_succ, List.eraseIdx_cons_zero] at hw)) | (refine wl_run (d := some 49) (rn_cadd rfl (by exact rfl) (by exact rfl) _ rfl (by omega)) ?_))
            replace hw := snocR (g := tagP N) hw rfl
            go_roundw
            case rel => exact ⟨k + 1, _, _, by omega, by go_num, by go_num, rfl, hw⟩
            case measure => simp [intOf]; omega
          · obtain rfl : N = k := by omega
            obtain ⟨ws, hws⟩ : ∃ ws, Kp (wsOf p = ws) := ⟨_, Kp.mk rfl⟩
            obtain ⟨L, hL⟩ : ∃ L, Kp (ws.length = L) := ⟨_, Kp.mk rfl⟩
            rw [hws.out, hL.out] at hsW hwl e
            have u5 := hwl.2
            have hlv := Kp.mk (show lvN p = (L : Int) by rw [lvN_eq HS.out, hws.out, hL.out])
            have hwk := Kp.mk (show ∀ k : Nat, wd p k = (ws.getD k 0 : Nat) by intro k; rw [wd_at HS.out k, hws.out])
            have hwb := Kp.mk (show ∀ k : Nat, ws.getD k 0 ≤ 16 by
              intro k
              have h := ws_mem HS.out
              rw [hws.out] at h
              rw [List.getD_eq_getElem?_getD]
              cases hq : ws[k]? with
              | none => simp
              | some x => exact h x (List.mem_of_getElem? hq))
            have hlist : (List.range N).map dataP ++ (List.range N).map (tagP N) = dtL N ++ itsL N ws 0 := by unfold dtL itsL; simp
            rw [hlist] at hw
            clear hlist
            have hs0 : sumW ws 0 = 0 := by unfold sumW; simp
            go_wp2_with (first
              | (refine wl_run (rn_cmul rfl (by exact rfl) (by exact rfl) _ hal.out (by omega)) ?_)
              | (refine wb_load1 (d := some 34)  rfl (by first | exact hw.read 0 rfl | exact hw.read 1 rfl | exact hw.read 2 rfl | exact hw.read 3 rfl | exact hw.read 4 rfl | exact hw.read 5 rfl | exact hw.read 6 rfl | exact hw.read 7 rfl | exact hw.read 8 rfl) (by decide +kernel) (by exact Pl.c2 _) ?_) | (refine wb_load1 (d := some 36)  rfl (by first | exact hw.read 0 rfl | exact hw.read 1 rfl | exact hw.read 2 rfl | exact hw.read 3 rfl | exact hw.read 4 rfl | exact hw.read 5 rfl | exact hw.read 6 rfl | exact hw.read 7 rfl | exact hw.read 8 rfl) (by decide +kernel) (by exact Pl.c3 _) ?_) | (refine wl_run (d := some 37) (rn_cmul rfl (by exact rfl) (by exact rfl) _ rfl (by omega)) ?_) | (refine wl_run (d := some 38) (rn_clss rfl (by exact rfl) (by exact rfl) true (decide_eq_true (by omega))) ?_) | (refine wl_run (d := some 38) (rn_clss rfl (by exact rfl) (by exact rfl) false (decide_eq_false (by omega))) ?_))
            go_loopw [3, 4, 7] (fun o at_ i wr => ∃ (k : Nat) (A : Option Addr) (c : Nat), k ≤ L ∧ i = .int .i64 k ∧ at_ = .int .i64 (40 * N + 32 * sumW ws k : Nat) ∧ o = .slice A (N + N + sumW ws k) c ∧ Sat E wr (RowN 100 7 (.slice A (N + N + sumW ws k) c) (N + N + sumW ws k) Prt.cs (dtL N ++ itsL N ws k) :: pt b1 (.cells p.cs 28 (0, 0)) :: F)) (fun _ _ i _ => L - (intOf i).toNat)
            case atStart => exact ⟨0, _, _, by omega, rfl, by go_num, rfl, hw⟩
            case round =>
              clear hw
              obtain ⟨k, A, c, hk, rfl, rfl, rfl, hw⟩ := hrel
              by_cases hlt : k < L
              · obtain ⟨W, hW⟩ : ∃ W, Kp (ws.getD k 0 = W) := ⟨_, Kp.mk rfl⟩
                obtain ⟨S, hS⟩ : ∃ S, Kp (sumW ws k = S) := ⟨_, Kp.mk rfl⟩
                have hwW := Kp.mk (show wd p (k : Int) = (W : Int) by rw [hwk.out k, hW.out])
                have hb16 : W ≤ 16 := by rw [← hW.out]; exact hwb.out k
                have hS80 : S ≤ 80 := by rw [← hS.out]; have := hsW k; omega
                rw [hS.out] at hw ⊢
                go_wp2_with (first
                  | (go_at_call 63; go_must (refine (Calls.mono (ref_levels (p := p) hw) ?_)); clear hw; rintro e w ⟨rfl, hw⟩; rw [hlv.out]; (try simp only [List.set_cons_succ, List.set_cons_zero, List.setIfInBounds_toArray, Value.cells, List.eraseIdx_cons_succ, List.eraseIdx_cons_zero] at hw))
                  | (refine wb_loadA (d := some 51)  rfl (by first | exact hw.read 0 rfl | exact hw.read 1 rfl | exact hw.read 2 rfl | exact hw.read 3 rfl | exact hw.read 4 rfl | exact hw.read 5 rfl | exact hw.read 6 rfl | exact hw.read 7 rfl | exact hw.read 8 rfl) (by rw [plan_agg, Pl.size]) ?_) | (refine wl_run (d := some 53) (rn_clss rfl (by exact rfl) (by exact rfl) true (decide_eq_true (by omega))) ?_) | (refine wl_run (d := some 53) (rn_clss rfl (by exact rfl) (by exact rfl) false (decide_eq_false (by omega))) ?_))
                go_loopw [3, 4, 8] (fun o at_ i wr => ∃ (j : Nat) (A : Option Addr) (c : Nat), j ≤ W ∧ i = .int .i64 j ∧ at_ = .int .i64 (40 * N + 32 * (S + j) : Nat) ∧ o = .slice A (N + N + S + j) c ∧ Sat E wr (RowN 100 7 (.slice A (N + N + S + j) c) (N + N + S + j) Prt.cs ((dtL N ++ itsL N ws k) ++ (List.range j).map (itP N k S)) :: pt b1 (.cells p.cs 28 (0, 0)) :: F)) (fun _ _ i _ => W - (intOf i).toNat)
                case atStart => exact ⟨0, _, _, by omega, rfl, by go_num, rfl, by rw [List.range_zero, List.map_nil, List.append_nil]; exact hw⟩
                case round =>
                  clear hw
                  obtain ⟨j, A, c, hj, rfl, rfl, rfl, hw⟩ := hrel
                  by_cases hlt2 : j < W
                  · go_wp2_with (first
                      | (go_at_call 64; go_must (refine (Calls.mono (ref_width (p := p) (l := (k : Int)) hw (by unfold i64B; omega)) ?_)); clear hw; rintro e w ⟨rfl, hw⟩; rw [hwW.out]; (try simp only [List.set_cons_succ, List.set_cons_zero, List.setIfInBounds_toArray, Value.cells, List.eraseIdx_cons_succ, List.eraseIdx_cons_zero] at hw))
                      | (refine wb_loadA (d := some 57)  rfl (by first | exact hw.read 0 rfl | exact hw.read 1 rfl | exact hw.read 2 rfl | exact hw.read 3 rfl | exact hw.read 4 rfl | exact hw.read 5 rfl | exact hw.read 6 rfl | exact hw.read 7 rfl | exact hw.read 8 rfl) (by rw [plan_agg, Pl.size]) ?_) | (refine wl_run (d := some 60) (rn_clss rfl (by exact rfl) (by exact rfl) true (decide_eq_true (by omega))) ?_) | (refine wl_run (d := some 60) (rn_clss rfl (by exact rfl) (by exact rfl) false (decide_eq_false (by omega))) ?_) | (refine wl_run (d := some 62) (rn_cadd rfl (by exact rfl) (by exact rfl) _ rfl (by omega)) ?_) | (refine wl_run (d := some 66) (rn_build _ rfl (by simp only [List.map_cons, List.map_nil, Act.eval, Act.put, List.setIfInBounds_toArray, List.set_cons_succ, List.set_cons_zero, gd_s, gd_0, U_cells, Y_cells, Value.cells]; exact rfl) (by exact Itv.b0_1 ..)) ?_) | (refine wl_run (d := some 67) (rn_build _ rfl (by simp only [List.map_cons, List.map_nil, Act.eval, Act.put, List.setIfInBounds_toArray, List.set_cons_succ, List.set_cons_zero, gd_s, gd_0, U_cells, Y_cells, Value.cells]; exact rfl) (by exact Plc.b0_2 ..)) ?_) | (refine wl_run (d := some 69) (rn_build _ rfl (by simp only [List.map_cons, List.map_nil, Act.eval, Act.put, List.setIfInBounds_toArray, List.set_cons_succ, List.set_cons_zero, gd_s, gd_0, U_cells, Y_cells, Value.cells]; exact rfl) (by exact Prt.b0_1_2 ..)) ?_) | (refine wl_lit1 (d := some 70)  (el := 100) (sz := 7) hw (by simp only [Act.eval, Act.put, List.setIfInBounds_toArray, List.set_cons_succ, List.set_cons_zero, gd_s, gd_0, Value.cells]; exact rfl) (by kernel_rfl) (by kernel_rfl) (by kernel_rfl) (by exact Prt.size _) (by omega) (by omega) ?_; clear hw; intro bL w hw; (try simp only [List.set_cons_succ, List.set_cons_zero, List.setIfInBounds_toArray, Value.cells, List.eraseIdx_cons_succ, List.eraseIdx_cons_zero] at hw)) | (refine wl_push (d := some 71)  (f := Prt.cs) hw 0 rfl rfl rfl (by kernel_rfl) Prt.row (by exact Prt.size _) (by decide) (by exact Prt.size _) (by exact Prt.one _) (by omega) (by decide) ?_; clear hw; intro A c w hw; (try simp only [List.set_cons_succ, List.set_cons_zero, List.setIfInBounds_toArray, Value.cells, List.eraseIdx_cons_succ, List.eraseIdx_cons_zero] at hw)) | (refine wl_push (d := some 71)  (f := Prt.cs) hw 1 rfl rfl rfl (by kernel_rfl) Prt.row (by exact Prt.size _) (by decide) (by exact Prt.size _) (by exact Prt.one _) (by omega) (by decide) ?_; clear hw; intro A c w hw; (try simp only [List.set_cons_succ, List.set_cons_zero, List.setIfInBounds_toArray, Value.cells, List.eraseIdx_cons_succ, List.eraseIdx_cons_zero] at hw)) | (refine wl_push (d := some 71)  (f := Prt.cs) hw 2 rfl rfl rfl (by kernel_rfl) Prt.row (by exact Prt.size _) (by decide) (by exact Prt.size _) (by exact Prt.one _) (by omega) (by decide) ?_; clear hw; intro A c w hw; (try simp only [List.set_cons_succ, List.set_cons_zero, List.setIfInBounds_toArray, Value.cells, List.eraseIdx_cons_succ, List.eraseIdx_cons_zero] at hw)) | (refine wl_push (d := some 71)  (f := Prt.cs) hw 3 rfl rfl rfl (by kernel_rfl) Prt.row (by exact Prt.size _) (by decide) (by exact Prt.size _) (by exact Prt.one _) (by omega) (by decide) ?_; clear hw; intro A c w hw; (try simp only [List.set_cons_succ, List.set_cons_zero, List.setIfInBounds_toArray, Value.cells, List.eraseIdx_cons_succ, List.eraseIdx_cons_zero] at hw)) | (refine wl_run (d := some 73) (rn_cadd rfl (by exact rfl) (by exact rfl) _ rfl (by omega)) ?_))
                    replace hw := snocR (g := itP N k S) hw rfl
                    go_roundw
                    case rel => exact ⟨j + 1, _, _, by omega, by go_num, by go_num, rfl, hw⟩
                    case measure => simp [intOf]; omega
                  · obtain rfl : W = j := by omega
                    go_wp2_with (first
                      | (go_at_call 64; go_must (refine (Calls.mono (ref_width (p := p) (l := (k : Int)) hw (by unfold i64B; omega)) ?_)); clear hw; rintro e w ⟨rfl, hw⟩; rw [hwW.out]; (try simp only [List.set_cons_succ, List.set_cons_zero, List.setIfInBounds_toArray, Value.cells, List.eraseIdx_cons_succ, List.eraseIdx_cons_zero] at hw))
                      | (refine wl_run (d := some 55) (rn_cadd rfl (by exact rfl) (by exact rfl) _ rfl (by omega)) ?_) | (refine wb_loadA (d := some 57)  rfl (by first | exact hw.read 0 rfl | exact hw.read 1 rfl | exact hw.read 2 rfl | exact hw.read 3 rfl | exact hw.read 4 rfl | exact hw.read 5 rfl | exact hw.read 6 rfl | exact hw.read 7 rfl | exact hw.read 8 rfl) (by rw [plan_agg, Pl.size]) ?_) | (refine wl_run (d := some 60) (rn_clss rfl (by exact rfl) (by exact rfl) true (decide_eq_true (by omega))) ?_) | (refine wl_run (d := some 60) (rn_clss rfl (by exact rfl) (by exact rfl) false (decide_eq_false (by omega))) ?_))
                    have hq1 : sumW ws (k + 1) = S + W := by rw [sumW_succ, hS.out, hW.out]
                    have hq2 : (dtL N ++ itsL N ws k) ++ (List.range W).map (itP N k S) = dtL N ++ itsL N ws (k + 1) := by rw [itsL_succ, hS.out, hW.out, ← List.append_assoc]; rfl
                    rw [hq2] at hw
                    go_roundw
                    case rel => exact ⟨k + 1, _, _, by omega, by go_num, by rw [hq1]; go_num, by rw [hq1, ← Nat.add_assoc], by rw [hq1, ← Nat.add_assoc]; exact hw⟩
                    case measure => simp [intOf]; omega
              · obtain rfl : L = k := by omega
                go_wp2_with (first
                  | (go_at_call 63; go_must (refine (Calls.mono (ref_levels (p := p) hw) ?_)); clear hw; rintro e w ⟨rfl, hw⟩; rw [hlv.out]; (try simp only [List.set_cons_succ, List.set_cons_zero, List.setIfInBounds_toArray, Value.cells, List.eraseIdx_cons_succ, List.eraseIdx_cons_zero] at hw))
                  | (refine wb_loadA (d := some 51)  rfl (by first | exact hw.read 0 rfl | exact hw.read 1 rfl | exact hw.read 2 rfl | exact hw.read 3 rfl | exact hw.read 4 rfl | exact hw.read 5 rfl | exact hw.read 6 rfl | exact hw.read 7 rfl | exact hw.read 8 rfl) (by rw [plan_agg, Pl.size]) ?_) | (refine wl_run (d := some 53) (rn_clss rfl (by exact rfl) (by exact rfl) true (decide_eq_true (by omega))) ?_) | (refine wl_run (d := some 53) (rn_clss rfl (by exact rfl) (by exact rfl) false (decide_eq_false (by omega))) ?_))
                go_ret
                have hlen := Row_len hw 0 rfl
                rw [flat_len (sz := 7) (by intro m hm; obtain ⟨x, _, rfl⟩ := List.mem_map.1 hm; exact Prt.size x), List.length_map] at hlen
                have hlen2 : N + N + sumW ws L = (dtL N ++ itsL N ws L).length := by omega
                rw [hlen2] at hw ⊢
                rw [e.out]
                exact ⟨_, _, rfl, (Sat.gets hw (by repeat (first | exact Gets.nil | exact Gets.refl _ | refine Gets.get 0 rfl ?_ | refine Gets.get 1 rfl ?_ | refine Gets.get 2 rfl ?_ | refine Gets.get 3 rfl ?_ | refine Gets.get 4 rfl ?_ | refine Gets.get 5 rfl ?_ | refine Gets.get 6 rfl ?_ | refine Gets.get 7 rfl ?_ | refine Gets.get 8 rfl ?_ | refine Gets.get 9 rfl ?_ | refine Gets.drop ?_)))⟩
end
end Go.Proofs.Ytklhmlplabkoeaa
