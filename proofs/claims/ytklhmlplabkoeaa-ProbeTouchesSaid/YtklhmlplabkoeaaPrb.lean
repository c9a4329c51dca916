/- What an adversary is up to: plain form, package probe's places. Conditions: none. -/
import Derived.Test.YtklhmlplabkoeaaReg
import Derived.Test.YtklhmlplabkoeaaPrtL
set_option linter.unusedVariables false
set_option linter.unusedSimpArgs false
namespace Go.Proofs.Ytklhmlplabkoeaa
open Go.RowKit Go.Bst Go.MapKept Go.Proofs.YtklhmlplabkoeaaW.PrintLast
structure Plo where
  kind : Int
  frm : Int
  to : Int
  bit : Int
def Plo.cs (x : Plo) : Array Value := #[.int .i64 x.kind, .int .i64 x.frm, .int .i64 x.to, .int .i64 x.bit]
theorem Plo.size (x : Plo) : x.cs.size = 4 := rfl
theorem Plo.c0 (x : Plo) : x.cs[0]? = some (.int .i64 x.kind) := rfl
theorem Plo.s0 (x : Plo) (v : Int) : x.cs.setIfInBounds 0 (.int .i64 v) = ({ x with kind := v } : Plo).cs := rfl
theorem Plo.c1 (x : Plo) : x.cs[1]? = some (.int .i64 x.frm) := rfl
theorem Plo.s1 (x : Plo) (v : Int) : x.cs.setIfInBounds 1 (.int .i64 v) = ({ x with frm := v } : Plo).cs := rfl
theorem Plo.c2 (x : Plo) : x.cs[2]? = some (.int .i64 x.to) := rfl
theorem Plo.s2 (x : Plo) (v : Int) : x.cs.setIfInBounds 2 (.int .i64 v) = ({ x with to := v } : Plo).cs := rfl
theorem Plo.c3 (x : Plo) : x.cs[3]? = some (.int .i64 x.bit) := rfl
theorem Plo.s3 (x : Plo) (v : Int) : x.cs.setIfInBounds 3 (.int .i64 v) = ({ x with bit := v } : Plo).cs := rfl
theorem Plo.one (x : Plo)  : x.cs.all (·.oneCell') = true := by
  have e : ∀ k n, (Value.int k n).oneCell' = true := fun _ _ => rfl
  have e2 : ∀ b, (Value.bool b).oneCell' = true := fun _ => rfl
  unfold Plo.cs
  simp only [List.all_toArray, List.all_cons, List.all_nil, e, e2, U_one, Y_one, Bool.and_true]
def Plo.zero : Plo := ⟨0, 0, 0, 0⟩
def Plo.K : List SK := [.int .i64, .int .i64, .int .i64, .int .i64]
theorem Plo.fit {x : Plo} (hkind : i64B x.kind) (hfrm : i64B x.frm) (hto : i64B x.to) (hbit : i64B x.bit) : fitAll Plo.K x.cs.toList := by unfold Plo.cs; exact ⟨fits_i64 hkind, fits_i64 hfrm, fits_i64 hto, fits_i64 hbit, trivial⟩
theorem Plo.zro : zeroOf Try.prog 51 = some (.agg Plo.zero.cs) := by kernel_rfl
theorem Plo.agz : aggSize Try.prog 51 = some 4 := by kernel_rfl
theorem Plo.row : (Try.prog.info? 51).map (fun i => (i.zero, i.size, i.bytes)) = some (some (.agg Plo.zero.cs), 4, 32) := by kernel_rfl
theorem Plo.inf : (Try.prog.info? 51).map (·.size) = some 4 := by kernel_rfl
theorem Plo.kinds : skinds Try.prog 9 51 = some Plo.K := by kernel_rfl
theorem Plo.sm : aggSize Try.prog 51 ≠ none := by rw [Plo.agz]; simp
theorem Plo.eqg : Try.prog.eqGuardType Try.prog.depth 51 = false := by kernel_rfl
attribute [irreducible] Plo.cs
def totN (p : Pl) : Nat := sumW (wsOf p) (wsOf p).length
def itB (p : Pl) (n : Int) : Bool := rightB p && decide (0 ≤ n) && decide (n < totN p)
/-- Where the n-th of a kind stands: data, tags, items. -/
def partA (p : Pl) (k n : Int) : Int := if k = 1 then (if lineB p n then n * 32 else 0) else if k = 2 then (if lineB p n then allI p * 32 + n * 8 else 0) else (if itB p n then allI p * 40 + n * 32 else 0)
def partB (p : Pl) (k n : Int) : Bool := if k = 1 ∨ k = 2 then lineB p n else itB p n
def flipL (ok : Bool) (a bit n : Int) : List Tmv := if ok && decide (0 ≤ bit) && decide (bit < n * 8) then [⟨2, a * 8 + bit, 0, 0⟩] else []
def flipC (ok : Bool) (bit n : Int) : Int := if ok && decide (0 ≤ bit) && decide (bit < n * 8) then 0 else 2
def plotF (p : Pl) (x : Plo) : List Tmv × Int :=
  if rightB p = false then ([], 4)
  else if x.kind = 1 then (flipL (partB p 1 x.frm) (partA p 1 x.frm) x.bit 32, flipC (partB p 1 x.frm) x.bit 32)
  else if x.kind = 2 then (flipL (partB p 2 x.frm) (partA p 2 x.frm) x.bit 8, flipC (partB p 2 x.frm) x.bit 8)
  else if x.kind = 3 then (flipL (partB p 3 x.frm) (partA p 3 x.frm) x.bit 32, flipC (partB p 3 x.frm) x.bit 32)
  else if x.kind = 4 then (if partB p 1 x.frm && partB p 1 x.to then ([⟨3, partA p 1 x.frm, partA p 1 x.to, 32⟩, ⟨3, partA p 2 x.frm, partA p 2 x.to, 8⟩], 0) else ([], 2))
  else if x.kind = 5 then (if partB p 3 x.frm && partB p 3 x.to then ([⟨3, partA p 3 x.frm, partA p 3 x.to, 32⟩], 0) else ([], 2))
  else if x.kind = 6 then (if x.frm < 0 then ([], 2) else ([⟨6, 0, 0, x.frm⟩], 0))
  else ([], 1)
theorem totN_le {p : Pl} (h : rightB p = true) : totN p ≤ 80 := by
  have h2 := (rightB_iff.1 h).1
  have h3 := sumW_le (ws_mem h2) (wsOf p).length
  have h4 := ws_len h2
  unfold totN; omega
theorem partA_in {p : Pl} (h : rightB p = true) (k n : Int) : 0 ≤ partA p k n ∧ partA p k n ≤ 100000 := by
  have h1 := allI_in h
  have h2 := totN_le h
  have hl : lineB p n = true → 0 ≤ n ∧ n < allI p := fun e => by unfold lineB at e; simp at e; exact ⟨e.1.2, e.2⟩
  have hi : itB p n = true → 0 ≤ n ∧ n < totN p := fun e => by unfold itB at e; simp at e; exact ⟨e.1.2, e.2⟩
  unfold partA
  cases e1 : lineB p n <;> cases e2 : itB p n <;> simp only [if_true, if_false, Bool.false_eq_true]
  all_goals (repeat' split)
  all_goals (first | omega | (have := hl e1; omega) | (have := hi e2; omega))
section
variable {E : Env} {w : World} {F : List HP} {p : Pl}
attribute [local irreducible] wpList Calls Code.wp Code.wpN Oper.wp Go.Proofs.YtklhmlplabkoeaaW.PrintLast.wpAnyLast
theorem wd_pos {p : Pl} {l : Int} (h : shB p = true) (hp : 0 < wd p l) : ∃ k : Nat, l = k ∧ k < (wsOf p).length := by
  by_cases h0 : l < 0
  · rw [wd_no (.inr (.inl h0))] at hp; omega
  · refine ⟨l.toNat, by omega, ?_⟩
    rcases Nat.lt_or_ge l.toNat (wsOf p).length with hl | hl
    · exact hl
    · have := wd_end h _ hl
      rw [Int.toNat_of_nonneg (by omega)] at this
      omega
set_option maxRecDepth 100000 in
theorem reg_Item {k : Nat} {i : Int} (hw : Sat E w F) (hrt : rightB p = true) (hk : k < (wsOf p).length) (h0 : 0 ≤ i) (h1 : i < wd p k) : Calls Try.prog 58 #[.agg p.cs, .agg (Itv.mk k i).cs] w fun e w' => e = .returned (.tuple #[.int .i64 (allI p * 40 + (sumW (wsOf p) k + i) * 32), .bool true]) ∧ Sat E w' F := by
  have ha := allI_any p
  have hsh := (rightB_iff.1 hrt).1
  have h4 := ws_len hsh
  have hs := sumW_le (ws_mem hsh) k
  have hit := Kp.mk (show itemB p k i = true by unfold itemB; rw [hrt]; simp [h0, h1])
  have hwd := (wd_step hsh k hk).2.1
  obtain ⟨s, hs'⟩ : ∃ s, Kp (sumW (wsOf p) k = s) := ⟨_, Kp.mk rfl⟩
  rw [hs'.out] at hs ⊢
  obtain ⟨r, hr⟩ : ∃ r, Kp (allI p * 40 + ((s : Int) + i) * 32 = r) := ⟨_, Kp.mk rfl⟩
  have hr2 := Kp.mk (show allI p * 32 + allI p * 8 + ((s : Int) + i) * 32 = r by have := hr.out; omega)
  have hrb : 0 ≤ r ∧ r ≤ 1000000 := by have := hr.out; omega
  rw [hr.out]
  go_enter Try.func58, Try.ntmps58
  go_upto_region 3 with (first
    | (go_at_call 70; go_must (refine (Calls.mono (reg_item (p := p) (x := ⟨k, i⟩) hw (by unfold i64B; dsimp only; omega)) ?_)); clear hw; rintro e w ⟨rfl, hw⟩; rw [hit.out]; (try simp only [List.set_cons_succ, List.set_cons_zero, List.setIfInBounds_toArray, Value.cells, List.eraseIdx_cons_succ, List.eraseIdx_cons_zero] at hw))
    | (refine wl_box (d := some 2) hw _ (by simp only [Act.eval, Act.put, List.setIfInBounds_toArray, List.set_cons_succ, List.set_cons_zero, gd_s, gd_0, Value.cells]; exact rfl) ?_; clear hw; intro b2 w hw; (try simp only [List.set_cons_succ, List.set_cons_zero, List.setIfInBounds_toArray, Value.cells, List.eraseIdx_cons_succ, List.eraseIdx_cons_zero] at hw)) | (refine wl_box (d := some 3) hw _ (by simp only [Act.eval, Act.put, List.setIfInBounds_toArray, List.set_cons_succ, List.set_cons_zero, gd_s, gd_0, Value.cells]; exact rfl) ?_; clear hw; intro b3 w hw; (try simp only [List.set_cons_succ, List.set_cons_zero, List.setIfInBounds_toArray, Value.cells, List.eraseIdx_cons_succ, List.eraseIdx_cons_zero] at hw)) | (refine wb_loadA (d := some 6)  rfl (by first | exact hw.read 0 rfl | exact hw.read 1 rfl | exact hw.read 2 rfl | exact hw.read 3 rfl | exact hw.read 4 rfl | exact hw.read 5 rfl | exact hw.read 6 rfl | exact hw.read 7 rfl | exact hw.read 8 rfl) (by rw [plan_agg, Pl.size]) ?_) | (refine wb_loadA (d := some 7)  rfl (by first | exact hw.read 0 rfl | exact hw.read 1 rfl | exact hw.read 2 rfl | exact hw.read 3 rfl | exact hw.read 4 rfl | exact hw.read 5 rfl | exact hw.read 6 rfl | exact hw.read 7 rfl | exact hw.read 8 rfl) (by rw [Itv.agz, Itv.size]) ?_) | (refine wb_loadA (d := some 10)  rfl (by first | exact hw.read 0 rfl | exact hw.read 1 rfl | exact hw.read 2 rfl | exact hw.read 3 rfl | exact hw.read 4 rfl | exact hw.read 5 rfl | exact hw.read 6 rfl | exact hw.read 7 rfl | exact hw.read 8 rfl) (by rw [plan_agg, Pl.size]) ?_) | (refine wb_loadA (d := some 12)  rfl (by first | exact hw.read 0 rfl | exact hw.read 1 rfl | exact hw.read 2 rfl | exact hw.read 3 rfl | exact hw.read 4 rfl | exact hw.read 5 rfl | exact hw.read 6 rfl | exact hw.read 7 rfl | exact hw.read 8 rfl) (by rw [plan_agg, Pl.size]) ?_) | (refine wb_load1 (d := some 14)  rfl (by first | exact hw.read 0 rfl | exact hw.read 1 rfl | exact hw.read 2 rfl | exact hw.read 3 rfl | exact hw.read 4 rfl | exact hw.read 5 rfl | exact hw.read 6 rfl | exact hw.read 7 rfl | exact hw.read 8 rfl) (by decide +kernel) (by exact Itv.c0 _) ?_) | (refine wb_load1 (d := some 17)  rfl (by first | exact hw.read 0 rfl | exact hw.read 1 rfl | exact hw.read 2 rfl | exact hw.read 3 rfl | exact hw.read 4 rfl | exact hw.read 5 rfl | exact hw.read 6 rfl | exact hw.read 7 rfl | exact hw.read 8 rfl) (by decide +kernel) (by exact Itv.c1 _) ?_) | (refine wl_run (d := some 18) (rn_cadd rfl (by exact rfl) (by exact rfl) _ rfl (by omega)) ?_) | (refine wl_run (d := some 19) (rn_cmul rfl (by exact rfl) (by exact rfl) _ rfl (by omega)) ?_) | (refine wl_run (d := some 20) (rn_cadd rfl (by exact rfl) (by exact rfl) _ rfl (by omega)) ?_))
  have hS0 := hw.gets (Gets.get 0 rfl (Gets.get 0 rfl Gets.nil))
  refine startS (ds := []) hS0 #[false, false, false, false, false, false, false, false, false, false, false, false, false] (by kernel_rfl) rfl (by rfl) ?_
  clear hS0; intro hS
  replace hw := hw.drew; generalize w.drew = w at hw hS ⊢
  (refine pureE (i := 3) (oi := { dst := some 13, op := Op.fieldAddr 67 (Operand.tmp 3) 0, type := 0, pos := "region.go:61", after := #[], guard := none }) (N := some 13) #[false, false, false, true, false, false, false, false, false, false, false, false, false] rfl rfl (by kernel_rfl) (fun _ _ _ _ h => h) ?_; apply Exists.intro; refine ⟨Or.inl ⟨by rfl, ?_⟩, ?_⟩; · (intro w0; first | (exact rn_cadd rfl (by exact rfl) (by exact rfl) r hr2.out (by omega)) | (go_simp; try with_reducible rfl)))
  try simp only [Act.put, List.setIfInBounds_toArray, List.set_cons_succ, List.set_cons_zero]
  (refine pureE (i := 6) (oi := { dst := some 16, op := Op.fieldAddr 67 (Operand.tmp 3) 1, type := 0, pos := "region.go:61", after := #[], guard := none }) (N := some 16) #[false, false, false, true, false, false, true, false, false, false, false, false, false] rfl rfl (by kernel_rfl) (fun _ _ _ _ h => h) ?_; apply Exists.intro; refine ⟨Or.inl ⟨by rfl, ?_⟩, ?_⟩; · (intro w0; first | (exact rn_cadd rfl (by exact rfl) (by exact rfl) r hr2.out (by omega)) | (go_simp; try with_reducible rfl)))
  try simp only [Act.put, List.setIfInBounds_toArray, List.set_cons_succ, List.set_cons_zero]
  (refine takeE (i := 0) (oi := { dst := some 10, op := Op.load 28 (Operand.tmp 2), type := 28, pos := "region.go:61", after := #[], guard := none }) (N := some 10) #[true, false, false, true, false, false, true, false, false, false, false, false, false] rfl rfl (by kernel_rfl) (fun _ _ _ _ h => h) hS ?_; apply Exists.intro; refine ⟨Or.inl ⟨by rfl, ?_⟩, ?_⟩; · (intro w0 h; first | (exact rnb_loadA rfl rfl (by first | exact h.read 0 rfl | exact h.read 1 rfl | exact h.read 2 rfl | exact h.read 3 rfl | exact h.read 4 rfl | exact h.read 5 rfl | exact h.read 6 rfl | exact h.read 7 rfl | exact h.read 8 rfl) (by rw [plan_agg, Pl.size])) | (exact rn_satLd1 rfl h 0 rfl rfl (by decide +kernel) (by simp only [List.getElem?_toArray, List.getElem?_cons_succ, List.getElem?_cons_zero]; exact rfl)) | (exact rn_satLd1 rfl h 1 rfl rfl (by decide +kernel) (by simp only [List.getElem?_toArray, List.getElem?_cons_succ, List.getElem?_cons_zero]; exact rfl)) | (exact rn_satLdA rfl h 0 rfl rfl (by kernel_rfl)) | (exact rn_satLdA rfl h 1 rfl rfl (by kernel_rfl)) | (exact rn_rowLd1 rfl h 0 rfl rfl (by decide +kernel) _ (by assumption)) | (exact rn_rowLd1 rfl h 1 rfl rfl (by decide +kernel) _ (by assumption)) | (go_simp; with_reducible rfl)))
  try simp only [Act.put, List.setIfInBounds_toArray, List.set_cons_succ, List.set_cons_zero]
  (refine takeE (i := 2) (oi := { dst := some 12, op := Op.load 28 (Operand.tmp 2), type := 28, pos := "region.go:61", after := #[], guard := none }) (N := some 12) #[true, false, true, true, false, false, true, false, false, false, false, false, false] rfl rfl (by kernel_rfl) (fun _ _ _ _ h => h) hS ?_; apply Exists.intro; refine ⟨Or.inl ⟨by rfl, ?_⟩, ?_⟩; · (intro w0 h; first | (exact rnb_loadA rfl rfl (by first | exact h.read 0 rfl | exact h.read 1 rfl | exact h.read 2 rfl | exact h.read 3 rfl | exact h.read 4 rfl | exact h.read 5 rfl | exact h.read 6 rfl | exact h.read 7 rfl | exact h.read 8 rfl) (by rw [plan_agg, Pl.size])) | (exact rn_satLd1 rfl h 0 rfl rfl (by decide +kernel) (by simp only [List.getElem?_toArray, List.getElem?_cons_succ, List.getElem?_cons_zero]; exact rfl)) | (exact rn_satLd1 rfl h 1 rfl rfl (by decide +kernel) (by simp only [List.getElem?_toArray, List.getElem?_cons_succ, List.getElem?_cons_zero]; exact rfl)) | (exact rn_satLdA rfl h 0 rfl rfl (by kernel_rfl)) | (exact rn_satLdA rfl h 1 rfl rfl (by kernel_rfl)) | (exact rn_rowLd1 rfl h 0 rfl rfl (by decide +kernel) _ (by assumption)) | (exact rn_rowLd1 rfl h 1 rfl rfl (by decide +kernel) _ (by assumption)) | (go_simp; with_reducible rfl)))
  try simp only [Act.put, List.setIfInBounds_toArray, List.set_cons_succ, List.set_cons_zero]
  (refine takeE (i := 4) (oi := { dst := some 14, op := Op.load 3 (Operand.tmp 13), type := 3, pos := "region.go:61", after := #[{ on := 3, ground := Ground.data }], guard := none }) (N := some 14) #[true, false, true, true, true, false, true, false, false, false, false, false, false] rfl rfl (by kernel_rfl) (fun _ _ _ _ h => h) hS ?_; apply Exists.intro; refine ⟨Or.inl ⟨by rfl, ?_⟩, ?_⟩; · (intro w0 h; first | (exact rnb_load1 rfl rfl (by first | exact h.read 0 rfl | exact h.read 1 rfl | exact h.read 2 rfl | exact h.read 3 rfl | exact h.read 4 rfl | exact h.read 5 rfl | exact h.read 6 rfl | exact h.read 7 rfl | exact h.read 8 rfl) (by decide +kernel) (by exact Itv.c0 _)) | (exact rn_satLd1 rfl h 0 rfl rfl (by decide +kernel) (by simp only [List.getElem?_toArray, List.getElem?_cons_succ, List.getElem?_cons_zero]; exact rfl)) | (exact rn_satLd1 rfl h 1 rfl rfl (by decide +kernel) (by simp only [List.getElem?_toArray, List.getElem?_cons_succ, List.getElem?_cons_zero]; exact rfl)) | (exact rn_satLdA rfl h 0 rfl rfl (by kernel_rfl)) | (exact rn_satLdA rfl h 1 rfl rfl (by kernel_rfl)) | (exact rn_rowLd1 rfl h 0 rfl rfl (by decide +kernel) _ (by assumption)) | (exact rn_rowLd1 rfl h 1 rfl rfl (by decide +kernel) _ (by assumption)) | (go_simp; with_reducible rfl)))
  try simp only [Act.put, List.setIfInBounds_toArray, List.set_cons_succ, List.set_cons_zero]
  (refine takeE (i := 7) (oi := { dst := some 17, op := Op.load 3 (Operand.tmp 16), type := 3, pos := "region.go:61", after := #[{ on := 6, ground := Ground.data }], guard := none }) (N := some 17) #[true, false, true, true, true, false, true, true, false, false, false, false, false] rfl rfl (by kernel_rfl) (fun _ _ _ _ h => h) hS ?_; apply Exists.intro; refine ⟨Or.inl ⟨by rfl, ?_⟩, ?_⟩; · (intro w0 h; first | (exact rnb_load1 rfl rfl (by first | exact h.read 0 rfl | exact h.read 1 rfl | exact h.read 2 rfl | exact h.read 3 rfl | exact h.read 4 rfl | exact h.read 5 rfl | exact h.read 6 rfl | exact h.read 7 rfl | exact h.read 8 rfl) (by decide +kernel) (by exact Itv.c1 _)) | (exact rn_satLd1 rfl h 0 rfl rfl (by decide +kernel) (by simp only [List.getElem?_toArray, List.getElem?_cons_succ, List.getElem?_cons_zero]; exact rfl)) | (exact rn_satLd1 rfl h 1 rfl rfl (by decide +kernel) (by simp only [List.getElem?_toArray, List.getElem?_cons_succ, List.getElem?_cons_zero]; exact rfl)) | (exact rn_satLdA rfl h 0 rfl rfl (by kernel_rfl)) | (exact rn_satLdA rfl h 1 rfl rfl (by kernel_rfl)) | (exact rn_rowLd1 rfl h 0 rfl rfl (by decide +kernel) _ (by assumption)) | (exact rn_rowLd1 rfl h 1 rfl rfl (by decide +kernel) _ (by assumption)) | (go_simp; with_reducible rfl)))
  try simp only [Act.put, List.setIfInBounds_toArray, List.set_cons_succ, List.set_cons_zero]
  (refine one_ (i := 1) (oi := { dst := some 11, op := Op.call { callee := Callee.value (Operand.func 61), args := #[Operand.tmp 10], argTypes := #[28] }, type := 3, pos := "region.go:61", after := #[{ on := 0, ground := Ground.data }], guard := none }) (N := some 11) #[true, true, true, true, true, false, true, true, false, false, false, false, false] rfl rfl (by kernel_rfl) (by decide) (fun K hK => ?_); rw [if_pos (by rfl)]; first | (refine wk_call 61 rfl (by kernel_rfl) ?_; simp only [List.map_toArray, List.map_cons, List.map_nil, Act.eval, gd_s, gd_0]; go_must (refine (Calls.mono (reg_items (p := p) hw) ?_)); clear hw; rintro e w ⟨rfl, hw⟩; (try simp only [List.set_cons_succ, List.set_cons_zero, List.setIfInBounds_toArray, Value.cells, List.eraseIdx_cons_succ, List.eraseIdx_cons_zero] at hw); refine ⟨_, rfl, ?_⟩) | (refine wk_call 62 rfl (by kernel_rfl) ?_; simp only [List.map_toArray, List.map_cons, List.map_nil, Act.eval, gd_s, gd_0]; go_must (refine (Calls.mono (reg_ahead (p := p) (l := k) hw hsh (by omega)) ?_)); clear hw; rintro e w ⟨rfl, hw⟩; rw [hs'.out]; (try simp only [List.set_cons_succ, List.set_cons_zero, List.setIfInBounds_toArray, Value.cells, List.eraseIdx_cons_succ, List.eraseIdx_cons_zero] at hw); refine ⟨_, rfl, ?_⟩))
  refine hK.out _ _ (Sat.gets hw (by repeat (first | exact Gets.nil | exact Gets.refl _ | refine Gets.get 0 rfl ?_ | refine Gets.get 1 rfl ?_ | refine Gets.get 2 rfl ?_ | refine Gets.get 3 rfl ?_ | refine Gets.get 4 rfl ?_ | refine Gets.get 5 rfl ?_ | refine Gets.get 6 rfl ?_ | refine Gets.get 7 rfl ?_ | refine Gets.get 8 rfl ?_ | refine Gets.get 9 rfl ?_ | refine Gets.drop ?_))) (fun hS => ?_); clear hK K; try simp only [Act.put, List.setIfInBounds_toArray, List.set_cons_succ, List.set_cons_zero]
  (refine one_ (i := 5) (oi := { dst := some 15, op := Op.call { callee := Callee.value (Operand.func 62), args := #[Operand.tmp 12, Operand.tmp 14], argTypes := #[28, 3] }, type := 3, pos := "region.go:61", after := #[{ on := 2, ground := Ground.data }, { on := 4, ground := Ground.data }, { on := 1, ground := Ground.chain }], guard := none }) (N := some 15) #[true, true, true, true, true, true, true, true, false, false, false, false, false] rfl rfl (by kernel_rfl) (by decide) (fun K hK => ?_); rw [if_pos (by rfl)]; first | (refine wk_call 61 rfl (by kernel_rfl) ?_; simp only [List.map_toArray, List.map_cons, List.map_nil, Act.eval, gd_s, gd_0]; go_must (refine (Calls.mono (reg_items (p := p) hw) ?_)); clear hw; rintro e w ⟨rfl, hw⟩; (try simp only [List.set_cons_succ, List.set_cons_zero, List.setIfInBounds_toArray, Value.cells, List.eraseIdx_cons_succ, List.eraseIdx_cons_zero] at hw); refine ⟨_, rfl, ?_⟩) | (refine wk_call 62 rfl (by kernel_rfl) ?_; simp only [List.map_toArray, List.map_cons, List.map_nil, Act.eval, gd_s, gd_0]; go_must (refine (Calls.mono (reg_ahead (p := p) (l := k) hw hsh (by omega)) ?_)); clear hw; rintro e w ⟨rfl, hw⟩; rw [hs'.out]; (try simp only [List.set_cons_succ, List.set_cons_zero, List.setIfInBounds_toArray, Value.cells, List.eraseIdx_cons_succ, List.eraseIdx_cons_zero] at hw); refine ⟨_, rfl, ?_⟩))
  refine hK.out _ _ (Sat.gets hw (by repeat (first | exact Gets.nil | exact Gets.refl _ | refine Gets.get 0 rfl ?_ | refine Gets.get 1 rfl ?_ | refine Gets.get 2 rfl ?_ | refine Gets.get 3 rfl ?_ | refine Gets.get 4 rfl ?_ | refine Gets.get 5 rfl ?_ | refine Gets.get 6 rfl ?_ | refine Gets.get 7 rfl ?_ | refine Gets.get 8 rfl ?_ | refine Gets.get 9 rfl ?_ | refine Gets.drop ?_))) (fun hS => ?_); clear hK K; try simp only [Act.put, List.setIfInBounds_toArray, List.set_cons_succ, List.set_cons_zero]
  (refine pureE (i := 8) (oi := { dst := some 18, op := Op.binOp BinOp.add 3 (Operand.tmp 15) (Operand.tmp 17) 3, type := 3, pos := "region.go:61", after := #[{ on := 5, ground := Ground.data }, { on := 7, ground := Ground.data }], guard := none }) (N := some 18) #[true, true, true, true, true, true, true, true, true, false, false, false, false] rfl rfl (by kernel_rfl) (fun _ _ _ _ h => h) ?_; apply Exists.intro; refine ⟨Or.inl ⟨by rfl, ?_⟩, ?_⟩; · (intro w0; first | (exact rn_cadd rfl (by exact rfl) (by exact rfl) r hr2.out (by omega)) | (exact (rn_cadd rfl (by exact rfl) (by exact rfl) _ rfl (by omega))) | (go_simp; try with_reducible rfl)))
  try simp only [Act.put, List.setIfInBounds_toArray, List.set_cons_succ, List.set_cons_zero]
  (refine pureE (i := 9) (oi := { dst := some 19, op := Op.binOp BinOp.mul 3 (Operand.tmp 18) (Operand.const (Value.int IntKind.i64 32)) 3, type := 3, pos := "region.go:61", after := #[{ on := 8, ground := Ground.data }], guard := none }) (N := some 19) #[true, true, true, true, true, true, true, true, true, true, false, false, false] rfl rfl (by kernel_rfl) (fun _ _ _ _ h => h) ?_; apply Exists.intro; refine ⟨Or.inl ⟨by rfl, ?_⟩, ?_⟩; · (intro w0; first | (exact rn_cadd rfl (by exact rfl) (by exact rfl) r hr2.out (by omega)) | (exact (rn_cmul rfl (by exact rfl) (by exact rfl) _ rfl (by omega))) | (go_simp; try with_reducible rfl)))
  try simp only [Act.put, List.setIfInBounds_toArray, List.set_cons_succ, List.set_cons_zero]
  (refine pureE (i := 10) (oi := { dst := some 20, op := Op.binOp BinOp.add 3 (Operand.tmp 11) (Operand.tmp 19) 3, type := 3, pos := "region.go:61", after := #[{ on := 1, ground := Ground.data }, { on := 9, ground := Ground.data }], guard := none }) (N := some 20) #[true, true, true, true, true, true, true, true, true, true, true, false, false] rfl rfl (by kernel_rfl) (fun _ _ _ _ h => h) ?_; apply Exists.intro; refine ⟨Or.inl ⟨by rfl, ?_⟩, ?_⟩; · (intro w0; first | (exact rn_cadd rfl (by exact rfl) (by exact rfl) r hr2.out (by omega)) | (exact (rn_cadd rfl (by exact rfl) (by exact rfl) _ rfl (by omega))) | (go_simp; try with_reducible rfl)))
  try simp only [Act.put, List.setIfInBounds_toArray, List.set_cons_succ, List.set_cons_zero]
  (refine pureE (i := 11) (oi := { dst := some 4, op := Op.assign (Operand.tmp 20), type := 3, pos := "region.go:61", after := #[{ on := 10, ground := Ground.data }, { on := 5, ground := Ground.chain }, { on := 0, ground := Ground.phase }, { on := 1, ground := Ground.phase }, { on := 2, ground := Ground.phase }, { on := 3, ground := Ground.phase }, { on := 4, ground := Ground.phase }, { on := 5, ground := Ground.phase }, { on := 6, ground := Ground.phase }, { on := 7, ground := Ground.phase }, { on := 8, ground := Ground.phase }, { on := 9, ground := Ground.phase }, { on := 10, ground := Ground.phase }], guard := none }) (N := some 4) #[true, true, true, true, true, true, true, true, true, true, true, true, false] rfl rfl (by kernel_rfl) (fun _ _ _ _ h => h) ?_; apply Exists.intro; refine ⟨Or.inl ⟨by rfl, ?_⟩, ?_⟩; · (intro w0; first | (exact rn_cadd rfl (by exact rfl) (by exact rfl) r hr2.out (by omega)) | (go_simp; try with_reducible rfl)))
  try simp only [Act.put, List.setIfInBounds_toArray, List.set_cons_succ, List.set_cons_zero]
  (refine pureE (i := 12) (oi := { dst := some 5, op := Op.assign (Operand.const (Value.bool true)), type := 4, pos := "region.go:61", after := #[{ on := 11, ground := Ground.chain }, { on := 0, ground := Ground.phase }, { on := 1, ground := Ground.phase }, { on := 2, ground := Ground.phase }, { on := 3, ground := Ground.phase }, { on := 4, ground := Ground.phase }, { on := 5, ground := Ground.phase }, { on := 6, ground := Ground.phase }, { on := 7, ground := Ground.phase }, { on := 8, ground := Ground.phase }, { on := 9, ground := Ground.phase }, { on := 10, ground := Ground.phase }, { on := 11, ground := Ground.phase }], guard := none }) (N := some 5) #[true, true, true, true, true, true, true, true, true, true, true, true, true] rfl rfl (by kernel_rfl) (fun _ _ _ _ h => h) ?_; apply Exists.intro; refine ⟨Or.inl ⟨by rfl, ?_⟩, ?_⟩; · (intro w0; first | (exact rn_cadd rfl (by exact rfl) (by exact rfl) r hr2.out (by omega)) | (go_simp; try with_reducible rfl)))
  try simp only [Act.put, List.setIfInBounds_toArray, List.set_cons_succ, List.set_cons_zero]
  refine done_ (by kernel_rfl) ?_; clear hS
  go_wp2
  (refine ret_tmp2 rfl _ _ rfl rfl rfl ?_)
  exact ⟨rfl, (Sat.gets hw (by repeat (first | exact Gets.nil | exact Gets.refl _ | refine Gets.get 0 rfl ?_ | refine Gets.get 1 rfl ?_ | refine Gets.get 2 rfl ?_ | refine Gets.get 3 rfl ?_ | refine Gets.get 4 rfl ?_ | refine Gets.get 5 rfl ?_ | refine Gets.get 6 rfl ?_ | refine Gets.get 7 rfl ?_ | refine Gets.get 8 rfl ?_ | refine Gets.get 9 rfl ?_ | refine Gets.drop ?_)))⟩
end
end Go.Proofs.Ytklhmlplabkoeaa
