/- The order of links; slices.SortFunc over links, by the library's shelf. Conditions: none. -/
import Derived.Shelf.SlSortCmp.WholeK
import Derived.Shelf.SlicesG.Cmp
import Derived.WalkKit
import Derived.Handy
import Derived.Deep.RegionWith
import Derived.Test.YtbkfhieadnfndaaSrtG
import Derived.Test.YtbkfhieadnfndaaProg
set_option linter.unusedVariables false
set_option linter.unusedSimpArgs false
namespace Go.Proofs.Ytbkfhieadnfndaa
open Go.Shelf Go.RowKit Go.Lib Go.Sort Go.Bst
def sortL_ren : Ren := { f := fun x => match x with | 6 => 58 | 15 => 64 | 14 => 63 | 28 => 74 | 29 => 75 | 20 => 66 | 21 => 67 | 22 => 68 | 23 => 69 | 24 => 70 | 25 => 71 | 26 => 72 | 27 => 73 | 46 => 76 | 47 => 77 | 48 => 78 | 49 => 79 | 50 => 80 | 57 => 81 | n => n, t := fun x => match x with | 22 => 77 | 24 => 82 | 25 => 125 | 3 => 3 | 39 => 133 | 0 => 0 | 53 => 142 | 55 => 57 | 4 => 4 | 46 => 136 | 45 => 135 | 50 => 109 | 5 => 5 | 9 => 9 | 66 => 144 | 70 => 148 | 76 => 150 | 77 => 151 | n => n, g := fun n => n }
theorem sortL : SlLaysF0.n6 Try.prog sortL_ren := { mixed := by kernel_rfl, f6 := ⟨"slices.SortFunc[[]bastion/api.Link,bastion/api.Link]", by decide, Try.func58.trans (by kernel_rfl)⟩, f14 := ⟨"slices.pdqsortCmpFunc[bastion/api.Link]", by decide, Try.func63.trans (by kernel_rfl)⟩, f15 := Try.func64.trans (by kernel_rfl), f20 := ⟨"slices.insertionSortCmpFunc[bastion/api.Link]", by decide, Try.func66.trans (by kernel_rfl)⟩, f21 := ⟨"slices.heapSortCmpFunc[bastion/api.Link]", by decide, Try.func67.trans (by kernel_rfl)⟩, f22 := ⟨"slices.breakPatternsCmpFunc[bastion/api.Link]", by decide, Try.func68.trans (by kernel_rfl)⟩, f23 := ⟨"slices.choosePivotCmpFunc[bastion/api.Link]", by decide, Try.func69.trans (by kernel_rfl)⟩, f24 := ⟨"slices.reverseRangeCmpFunc[bastion/api.Link]", by decide, Try.func70.trans (by kernel_rfl)⟩, f25 := ⟨"slices.partialInsertionSortCmpFunc[bastion/api.Link]", by decide, Try.func71.trans (by kernel_rfl)⟩, f26 := ⟨"slices.partitionEqualCmpFunc[bastion/api.Link]", by decide, Try.func72.trans (by kernel_rfl)⟩, f27 := ⟨"slices.partitionCmpFunc[bastion/api.Link]", by decide, Try.func73.trans (by kernel_rfl)⟩, f28 := Try.func74.trans (by kernel_rfl), f29 := Try.func75.trans (by kernel_rfl), f46 := ⟨"slices.siftDownCmpFunc[bastion/api.Link]", by decide, Try.func76.trans (by kernel_rfl)⟩, f47 := Try.func77.trans (by kernel_rfl), f48 := Try.func78.trans (by kernel_rfl), f49 := ⟨"slices.medianAdjacentCmpFunc[bastion/api.Link]", by decide, Try.func79.trans (by kernel_rfl)⟩, f50 := ⟨"slices.medianCmpFunc[bastion/api.Link]", by decide, Try.func80.trans (by kernel_rfl)⟩, f57 := ⟨"slices.order2CmpFunc[bastion/api.Link]", by decide, Try.func81.trans (by kernel_rfl)⟩, t0 := Try.underlying0, a0 := Try.isAgg0, z0 := Try.sizeOf0, v0 := Try.zeroValue0, t3 := Try.underlying3, a3 := Try.isAgg3, z3 := Try.sizeOf3, v3 := Try.zeroValue3, t4 := Try.underlying4, a4 := Try.isAgg4, z4 := Try.sizeOf4, v4 := Try.zeroValue4, t5 := Try.underlying5, a5 := Try.isAgg5, z5 := Try.sizeOf5, v5 := Try.zeroValue5, t9 := Try.underlying9, a9 := Try.isAgg9, z9 := Try.sizeOf9, v9 := Try.zeroValue9, t22 := Try.underlying77, a22 := Try.isAgg77, z22 := Try.sizeOf77, v22 := Try.zeroValue77, t25 := Try.underlying125, a25 := Try.isAgg125, z25 := Try.sizeOf125, v25 := Try.zeroValue125, t39 := Try.underlying133, a39 := Try.isAgg133, z39 := Try.sizeOf133, v39 := Try.zeroValue133, t45 := Try.underlying135, a45 := Try.isAgg135, z45 := Try.sizeOf135, v45 := Try.zeroValue135, t46 := Try.underlying136, a46 := Try.isAgg136, z46 := Try.sizeOf136, v46 := Try.zeroValue136, t50 := Try.underlying109, a50 := Try.isAgg109, z50 := Try.sizeOf109, v50 := Try.zeroValue109, t53 := Try.underlying142, a53 := Try.isAgg142, z53 := Try.sizeOf142, v53 := Try.zeroValue142, t55 := Try.underlying57, a55 := Try.isAgg57, z55 := Try.sizeOf57, v55 := Try.zeroValue57, t66 := Try.underlying144, a66 := Try.isAgg144, z66 := Try.sizeOf144, v66 := Try.zeroValue144, t70 := Try.underlying148, a70 := Try.isAgg148, z70 := Try.sizeOf148, v70 := Try.zeroValue148, t76 := Try.underlying150, a76 := Try.isAgg150, z76 := Try.sizeOf150, v76 := Try.zeroValue150, t77 := Try.underlying151, a77 := Try.isAgg151, z77 := Try.sizeOf151, v77 := Try.zeroValue151 }
def cmpL_ren : Ren := { f := fun x => match x with | 5 => 61 | 7 => 65 | n => n, t := fun x => match x with | 22 => 3 | 3 => 3 | 4 => 4 | n => n, g := fun n => n }
theorem cmpL : SlLaysC2.n5 Try.prog cmpL_ren := { mixed := by kernel_rfl, f5 := ⟨"cmp.Compare[int]", by decide, Try.func61.trans (by kernel_rfl)⟩, f7 := ⟨"cmp.isNaN[int]", by decide, Try.func65.trans (by kernel_rfl)⟩, t3 := Try.underlying3, a3 := Try.isAgg3, z3 := Try.sizeOf3, v3 := Try.zeroValue3, t4 := Try.underlying4, a4 := Try.isAgg4, z4 := Try.sizeOf4, v4 := Try.zeroValue4, t22 := Try.underlying3, a22 := Try.isAgg3, z22 := Try.sizeOf3, v22 := Try.zeroValue3 }
/-- The first of three that is not nought. -/
def orI (a b c : Int) : Int := if a ≠ 0 then a else if b ≠ 0 then b else c
set_option maxRecDepth 100000 in
set_option maxHeartbeats 4000000 in
theorem or3 (a b c r : Int) (hr : orI a b c = r) (W : World) (blk : Nat) (h0 : W.cell? ⟨blk, 0, none⟩ = some (.int .i64 a)) (h1 : W.cell? ⟨blk, 1, none⟩ = some (.int .i64 b)) (h2 : W.cell? ⟨blk, 2, none⟩ = some (.int .i64 c)) :
    Calls Try.prog 60 #[.slice (some ⟨blk, 0, none⟩) 3 3] W fun e w' => e = .returned (.int .i64 r) ∧ w' = W := by
  have hk := Kp.mk hr
  clear hr
  go_enter Try.func60, Try.ntmps60
  go_wp2
  go_rounds 4
  all_goals go_wp2
  all_goals (
    have hk := hk.out
    go_ret
    refine ⟨?_, rfl⟩
    congr 2
    rw [← hk]; unfold orI
    simp_all)
def lk3 (x y : Int × Int × Int) : Int := orI (compareInt x.1 y.1) (compareInt x.2.1 y.2.1) (compareInt x.2.2 y.2.2)
def lkC (x : Int × Int × Int) : List Value := [.int .i64 x.1, .int .i64 x.2.1, .int .i64 x.2.2]
section
attribute [local irreducible] wpList Calls Code.wp Code.wpN Oper.wp Go.Proofs.YtbkfhieadnfndaaW.PrintLast.wpAnyLast
set_option maxRecDepth 100000 in
set_option maxHeartbeats 4000000 in
theorem order_walk (x y : Int × Int × Int) (W : World) : Calls Try.prog 56 #[.agg (lkC x).toArray, .agg (lkC y).toArray] W fun e w' => e = .returned (.int .i64 (lk3 x y)) ∧ SG W w' := by
  have hcon := fun a b W' => AnyG.cmp_Compare_int cmpL a b W'
  change ∀ a b W', Calls Try.prog 61 _ _ _ at hcon
  obtain ⟨x1, x2, x3⟩ := x
  obtain ⟨y1, y2, y3⟩ := y
  obtain ⟨r1, h1⟩ : ∃ r, Kp (compareInt x1 y1 = r) := ⟨_, Kp.mk rfl⟩
  obtain ⟨r2, h2⟩ : ∃ r, Kp (compareInt x2 y2 = r) := ⟨_, Kp.mk rfl⟩
  obtain ⟨r3, h3⟩ : ∃ r, Kp (compareInt x3 y3 = r) := ⟨_, Kp.mk rfl⟩
  obtain ⟨r, h⟩ : ∃ r, Kp (orI r1 r2 r3 = r) := ⟨_, Kp.mk rfl⟩
  have c1 := hcon x1 y1
  have c2 := hcon x2 y2
  have c3 := hcon x3 y3
  rw [h1.out] at c1
  rw [h2.out] at c2
  rw [h3.out] at c3
  have hl : lk3 (x1, x2, x3) (y1, y2, y3) = r := by unfold lk3; rw [h1.out, h2.out, h3.out, h.out]
  rw [hl]
  show Calls Try.prog 56 #[.agg #[.int .i64 x1, .int .i64 x2, .int .i64 x3], .agg #[.int .i64 y1, .int .i64 y2, .int .i64 y3]] W _
  clear hcon hl
  go_enter Try.func56, Try.ntmps56
  go_wp2
  obtain ⟨W0, hW0⟩ : ∃ W0, Kp ((W.alloc (.cells #[.int .i64 x1, .int .i64 x2, .int .i64 x3] 82)).alloc (.cells #[.int .i64 y1, .int .i64 y2, .int .i64 y3] 82) = W0) := ⟨_, Kp.mk rfl⟩
  have hb := Kp.mk (heap_at (W := W) (.cells #[.int .i64 x1, .int .i64 x2, .int .i64 x3] 82) (.cells #[.int .i64 y1, .int .i64 y2, .int .i64 y3] 82))
  rw [hW0.out] at hb ⊢
  obtain ⟨hb1, hb2⟩ := hb.out
  have hso : SG W W0 := by rw [← hW0.out]; exact SG.old _ _
  obtain ⟨w, hw, hwe⟩ : ∃ w, SG W0 w ∧ W0 = w := ⟨W0, SG.refl, rfl⟩
  rw [show (Code.wp _ _ _ _ W0) = Code.wp _ _ _ _ w from by rw [hwe]]
  clear hwe hb
  refine Go.Proofs.YtbkfhieadnfndaaW.PrintLast.start_ (S := SG W0) (ds := []) #[false, false, false, false, false, false, false, false, false, false, false, false, false, false, false, false, false, false] (by kernel_rfl) rfl (by rfl) ?_ (fun hS => ?_)
  · exact (hw.drew)
  replace hw := hw.drew; generalize w.drew = w at hw hS ⊢
  refine pureE (i := 0) (oi := { dst := some 5, op := Op.fieldAddr 82 (Operand.tmp 2) 0, type := 0, pos := "noc.go:69", after := #[], guard := none }) (N := some 5) #[true, false, false, false, false, false, false, false, false, false, false, false, false, false, false, false, false, false] rfl rfl (by kernel_rfl) (fun _ _ _ _ h => h) ?_
  apply Exists.intro
  refine ⟨Or.inl ⟨by rfl, ?_⟩, ?_⟩
  · intro w0; go_simp; try with_reducible rfl
  try simp only [Act.put, List.setIfInBounds_toArray, List.set_cons_succ, List.set_cons_zero]
  refine pureE (i := 2) (oi := { dst := some 7, op := Op.fieldAddr 82 (Operand.tmp 3) 0, type := 0, pos := "noc.go:69", after := #[], guard := none }) (N := some 7) #[true, false, true, false, false, false, false, false, false, false, false, false, false, false, false, false, false, false] rfl rfl (by kernel_rfl) (fun _ _ _ _ h => h) ?_
  apply Exists.intro
  refine ⟨Or.inl ⟨by rfl, ?_⟩, ?_⟩
  · intro w0; go_simp; try with_reducible rfl
  try simp only [Act.put, List.setIfInBounds_toArray, List.set_cons_succ, List.set_cons_zero]
  refine pureE (i := 5) (oi := { dst := some 10, op := Op.fieldAddr 82 (Operand.tmp 2) 1, type := 0, pos := "noc.go:69", after := #[], guard := none }) (N := some 10) #[true, false, true, false, false, true, false, false, false, false, false, false, false, false, false, false, false, false] rfl rfl (by kernel_rfl) (fun _ _ _ _ h => h) ?_
  apply Exists.intro
  refine ⟨Or.inl ⟨by rfl, ?_⟩, ?_⟩
  · intro w0; go_simp; try with_reducible rfl
  try simp only [Act.put, List.setIfInBounds_toArray, List.set_cons_succ, List.set_cons_zero]
  refine pureE (i := 7) (oi := { dst := some 12, op := Op.fieldAddr 82 (Operand.tmp 3) 1, type := 0, pos := "noc.go:69", after := #[], guard := none }) (N := some 12) #[true, false, true, false, false, true, false, true, false, false, false, false, false, false, false, false, false, false] rfl rfl (by kernel_rfl) (fun _ _ _ _ h => h) ?_
  apply Exists.intro
  refine ⟨Or.inl ⟨by rfl, ?_⟩, ?_⟩
  · intro w0; go_simp; try with_reducible rfl
  try simp only [Act.put, List.setIfInBounds_toArray, List.set_cons_succ, List.set_cons_zero]
  refine pureE (i := 10) (oi := { dst := some 15, op := Op.fieldAddr 82 (Operand.tmp 2) 2, type := 0, pos := "noc.go:69", after := #[], guard := none }) (N := some 15) #[true, false, true, false, false, true, false, true, false, false, true, false, false, false, false, false, false, false] rfl rfl (by kernel_rfl) (fun _ _ _ _ h => h) ?_
  apply Exists.intro
  refine ⟨Or.inl ⟨by rfl, ?_⟩, ?_⟩
  · intro w0; go_simp; try with_reducible rfl
  try simp only [Act.put, List.setIfInBounds_toArray, List.set_cons_succ, List.set_cons_zero]
  refine pureE (i := 12) (oi := { dst := some 17, op := Op.fieldAddr 82 (Operand.tmp 3) 2, type := 0, pos := "noc.go:69", after := #[], guard := none }) (N := some 17) #[true, false, true, false, false, true, false, true, false, false, true, false, true, false, false, false, false, false] rfl rfl (by kernel_rfl) (fun _ _ _ _ h => h) ?_
  apply Exists.intro
  refine ⟨Or.inl ⟨by rfl, ?_⟩, ?_⟩
  · intro w0; go_simp; try with_reducible rfl
  try simp only [Act.put, List.setIfInBounds_toArray, List.set_cons_succ, List.set_cons_zero]
  refine takeE (i := 1) (oi := { dst := some 6, op := Op.load 3 (Operand.tmp 5), type := 3, pos := "noc.go:69", after := #[{ on := 0, ground := Ground.data }], guard := none }) (N := some 6) #[true, true, true, false, false, true, false, true, false, false, true, false, true, false, false, false, false, false] rfl rfl (by kernel_rfl) (fun _ _ _ _ h => h) hS ?_
  apply Exists.intro
  refine ⟨Or.inl ⟨by rfl, (fun w0 h => rn_blk1 (v := .int .i64 x1) rfl rfl (by decide +kernel) (h.read hb1) rfl)⟩, ?_⟩
  try simp only [Act.put, List.setIfInBounds_toArray, List.set_cons_succ, List.set_cons_zero]
  refine takeE (i := 3) (oi := { dst := some 8, op := Op.load 3 (Operand.tmp 7), type := 3, pos := "noc.go:69", after := #[{ on := 2, ground := Ground.data }], guard := none }) (N := some 8) #[true, true, true, true, false, true, false, true, false, false, true, false, true, false, false, false, false, false] rfl rfl (by kernel_rfl) (fun _ _ _ _ h => h) hS ?_
  apply Exists.intro
  refine ⟨Or.inl ⟨by rfl, (fun w0 h => rn_blk1 (v := .int .i64 y1) rfl rfl (by decide +kernel) (h.read hb2) rfl)⟩, ?_⟩
  try simp only [Act.put, List.setIfInBounds_toArray, List.set_cons_succ, List.set_cons_zero]
  refine takeE (i := 6) (oi := { dst := some 11, op := Op.load 3 (Operand.tmp 10), type := 3, pos := "noc.go:69", after := #[{ on := 5, ground := Ground.data }], guard := none }) (N := some 11) #[true, true, true, true, false, true, true, true, false, false, true, false, true, false, false, false, false, false] rfl rfl (by kernel_rfl) (fun _ _ _ _ h => h) hS ?_
  apply Exists.intro
  refine ⟨Or.inl ⟨by rfl, (fun w0 h => rn_blk1 (v := .int .i64 x2) rfl rfl (by decide +kernel) (h.read hb1) rfl)⟩, ?_⟩
  try simp only [Act.put, List.setIfInBounds_toArray, List.set_cons_succ, List.set_cons_zero]
  refine takeE (i := 8) (oi := { dst := some 13, op := Op.load 3 (Operand.tmp 12), type := 3, pos := "noc.go:69", after := #[{ on := 7, ground := Ground.data }], guard := none }) (N := some 13) #[true, true, true, true, false, true, true, true, true, false, true, false, true, false, false, false, false, false] rfl rfl (by kernel_rfl) (fun _ _ _ _ h => h) hS ?_
  apply Exists.intro
  refine ⟨Or.inl ⟨by rfl, (fun w0 h => rn_blk1 (v := .int .i64 y2) rfl rfl (by decide +kernel) (h.read hb2) rfl)⟩, ?_⟩
  try simp only [Act.put, List.setIfInBounds_toArray, List.set_cons_succ, List.set_cons_zero]
  refine takeE (i := 11) (oi := { dst := some 16, op := Op.load 3 (Operand.tmp 15), type := 3, pos := "noc.go:69", after := #[{ on := 10, ground := Ground.data }], guard := none }) (N := some 16) #[true, true, true, true, false, true, true, true, true, false, true, true, true, false, false, false, false, false] rfl rfl (by kernel_rfl) (fun _ _ _ _ h => h) hS ?_
  apply Exists.intro
  refine ⟨Or.inl ⟨by rfl, (fun w0 h => rn_blk1 (v := .int .i64 x3) rfl rfl (by decide +kernel) (h.read hb1) rfl)⟩, ?_⟩
  try simp only [Act.put, List.setIfInBounds_toArray, List.set_cons_succ, List.set_cons_zero]
  refine takeE (i := 13) (oi := { dst := some 18, op := Op.load 3 (Operand.tmp 17), type := 3, pos := "noc.go:69", after := #[{ on := 12, ground := Ground.data }], guard := none }) (N := some 18) #[true, true, true, true, false, true, true, true, true, false, true, true, true, true, false, false, false, false] rfl rfl (by kernel_rfl) (fun _ _ _ _ h => h) hS ?_
  apply Exists.intro
  refine ⟨Or.inl ⟨by rfl, (fun w0 h => rn_blk1 (v := .int .i64 y3) rfl rfl (by decide +kernel) (h.read hb2) rfl)⟩, ?_⟩
  try simp only [Act.put, List.setIfInBounds_toArray, List.set_cons_succ, List.set_cons_zero]
  refine Go.Proofs.YtbkfhieadnfndaaW.PrintLast.one_ (i := 4) (oi := { dst := some 9, op := Op.call { callee := Callee.value (Operand.func 61), args := #[Operand.tmp 6, Operand.tmp 8], argTypes := #[3, 3] }, type := 3, pos := "noc.go:69", after := #[{ on := 1, ground := Ground.data }, { on := 3, ground := Ground.data }], guard := none }) (N := some 9) #[true, true, true, true, true, true, true, true, true, false, true, true, true, true, false, false, false, false] rfl rfl (by kernel_rfl) (by decide) (fun K hK => ?_)
  rw [if_pos (by rfl)]
  refine wk_call 61 rfl (by kernel_rfl) ?_; simp only [List.map_toArray, List.map_cons, List.map_nil, Act.eval, gd_s, gd_0]; refine (c1 w).mono ?_; rintro e w2 ⟨rfl, h2⟩; refine ⟨_, rfl, ?_⟩; rw [h2]; clear h2 w2
  refine hK.out _ _ hS (fun hS => ?_); clear hK K; try simp only [Act.put, List.setIfInBounds_toArray, List.set_cons_succ, List.set_cons_zero]
  refine Go.Proofs.YtbkfhieadnfndaaW.PrintLast.one_ (i := 9) (oi := { dst := some 14, op := Op.call { callee := Callee.value (Operand.func 61), args := #[Operand.tmp 11, Operand.tmp 13], argTypes := #[3, 3] }, type := 3, pos := "noc.go:69", after := #[{ on := 6, ground := Ground.data }, { on := 8, ground := Ground.data }, { on := 4, ground := Ground.chain }], guard := none }) (N := some 14) #[true, true, true, true, true, true, true, true, true, true, true, true, true, true, false, false, false, false] rfl rfl (by kernel_rfl) (by decide) (fun K hK => ?_)
  rw [if_pos (by rfl)]
  refine wk_call 61 rfl (by kernel_rfl) ?_; simp only [List.map_toArray, List.map_cons, List.map_nil, Act.eval, gd_s, gd_0]; refine (c2 w).mono ?_; rintro e w2 ⟨rfl, h2⟩; refine ⟨_, rfl, ?_⟩; rw [h2]; clear h2 w2
  refine hK.out _ _ hS (fun hS => ?_); clear hK K; try simp only [Act.put, List.setIfInBounds_toArray, List.set_cons_succ, List.set_cons_zero]
  refine Go.Proofs.YtbkfhieadnfndaaW.PrintLast.one_ (i := 14) (oi := { dst := some 19, op := Op.call { callee := Callee.value (Operand.func 61), args := #[Operand.tmp 16, Operand.tmp 18], argTypes := #[3, 3] }, type := 3, pos := "noc.go:69", after := #[{ on := 11, ground := Ground.data }, { on := 13, ground := Ground.data }, { on := 9, ground := Ground.chain }], guard := none }) (N := some 19) #[true, true, true, true, true, true, true, true, true, true, true, true, true, true, true, false, false, false] rfl rfl (by kernel_rfl) (by decide) (fun K hK => ?_)
  rw [if_pos (by rfl)]
  refine wk_call 61 rfl (by kernel_rfl) ?_; simp only [List.map_toArray, List.map_cons, List.map_nil, Act.eval, gd_s, gd_0]; refine (c3 w).mono ?_; rintro e w2 ⟨rfl, h2⟩; refine ⟨_, rfl, ?_⟩; rw [h2]; clear h2 w2
  refine hK.out _ _ hS (fun hS => ?_); clear hK K; try simp only [Act.put, List.setIfInBounds_toArray, List.set_cons_succ, List.set_cons_zero]
  refine Go.Proofs.YtbkfhieadnfndaaW.PrintLast.one_ (i := 15) (oi := { dst := some 20, op := Op.buildSlice 54 3 #[(0, Operand.tmp 9), (1, Operand.tmp 14), (2, Operand.tmp 19)], type := 54, pos := "noc.go:69", after := #[{ on := 4, ground := Ground.data }, { on := 9, ground := Ground.data }, { on := 14, ground := Ground.data }], guard := none }) (N := some 20) #[true, true, true, true, true, true, true, true, true, true, true, true, true, true, true, true, false, false] rfl rfl (by kernel_rfl) (by decide) (fun K hK => ?_)
  rw [if_pos (by rfl)]
  refine wk_run (w' := w.alloc (.cells #[.int .i64 r1, .int .i64 r2, .int .i64 r3] 3)) (v := .slice (some ⟨w.heap.size, 0, none⟩) 3 3) (by go_simp) ?_
  refine hK.out _ _ (hS.alloc _) (fun hS => ?_); clear hK K; try simp only [Act.put, List.setIfInBounds_toArray, List.set_cons_succ, List.set_cons_zero]
  refine Go.Proofs.YtbkfhieadnfndaaW.PrintLast.one_ (i := 16) (oi := { dst := some 21, op := Op.call { callee := Callee.value (Operand.func 60), args := #[Operand.tmp 20], argTypes := #[54] }, type := 3, pos := "noc.go:69", after := #[{ on := 15, ground := Ground.data }, { on := 14, ground := Ground.chain }], guard := none }) (N := some 21) #[true, true, true, true, true, true, true, true, true, true, true, true, true, true, true, true, true, false] rfl rfl (by kernel_rfl) (by decide) (fun K hK => ?_)
  rw [if_pos (by rfl)]
  refine wk_call 60 rfl (by kernel_rfl) ?_; simp only [List.map_toArray, List.map_cons, List.map_nil, Act.eval, gd_s, gd_0]; refine (or3 r1 r2 r3 r h.out _ _ (by go_simp) (by go_simp) (by go_simp)).mono ?_; rintro e w2 ⟨rfl, h2⟩; refine ⟨_, rfl, ?_⟩; rw [h2]; clear h2 w2
  refine hK.out _ _ hS (fun hS => ?_); clear hK K; try simp only [Act.put, List.setIfInBounds_toArray, List.set_cons_succ, List.set_cons_zero]
  refine pureE (i := 17) (oi := { dst := some 4, op := Op.assign (Operand.tmp 21), type := 3, pos := "noc.go:69", after := #[{ on := 16, ground := Ground.data }, { on := 16, ground := Ground.chain }, { on := 0, ground := Ground.phase }, { on := 1, ground := Ground.phase }, { on := 2, ground := Ground.phase }, { on := 3, ground := Ground.phase }, { on := 4, ground := Ground.phase }, { on := 5, ground := Ground.phase }, { on := 6, ground := Ground.phase }, { on := 7, ground := Ground.phase }, { on := 8, ground := Ground.phase }, { on := 9, ground := Ground.phase }, { on := 10, ground := Ground.phase }, { on := 11, ground := Ground.phase }, { on := 12, ground := Ground.phase }, { on := 13, ground := Ground.phase }, { on := 14, ground := Ground.phase }, { on := 15, ground := Ground.phase }, { on := 16, ground := Ground.phase }], guard := none }) (N := some 4) #[true, true, true, true, true, true, true, true, true, true, true, true, true, true, true, true, true, true] rfl rfl (by kernel_rfl) (fun _ _ _ _ h => h) ?_
  apply Exists.intro
  refine ⟨Or.inl ⟨by rfl, ?_⟩, ?_⟩
  · intro w0; go_simp; try with_reducible rfl
  try simp only [Act.put, List.setIfInBounds_toArray, List.set_cons_succ, List.set_cons_zero]
  refine Go.Proofs.YtbkfhieadnfndaaW.PrintLast.done_ (by kernel_rfl) ?_; clear hS
  go_wp2
  go_ret
  exact ⟨rfl, hso.trans hS⟩
end
/-- One link ahead of another. -/
def lkLt (x y : Int × Int × Int) : Prop := x.1 < y.1 ∨ x.1 = y.1 ∧ (x.2.1 < y.2.1 ∨ x.2.1 = y.2.1 ∧ x.2.2 < y.2.2)
theorem cmpI (a b : Int) : (compareInt a b < 0 ↔ a < b) ∧ (compareInt a b = 0 ↔ a = b) := by
  unfold compareInt
  constructor <;> (repeat' split) <;> omega
theorem lk_lt (x y : Int × Int × Int) : ltOf lk3 x y = true ↔ lkLt x y := by
  have h1 := cmpI x.1 y.1
  have h2 := cmpI x.2.1 y.2.1
  have h3 := cmpI x.2.2 y.2.2
  unfold ltOf lk3 orI lkLt
  rw [decide_eq_true_iff]
  split
  · omega
  · split <;> omega
theorem lk_no (x y : Int × Int × Int) : ltOf lk3 x y = false ↔ ¬ lkLt x y := by rw [← lk_lt]; simp
theorem lk_swo : SWO (ltOf lk3) where
  irrefl x := by rw [lk_no]; unfold lkLt; omega
  trans x y z h1 h2 := by rw [lk_lt] at *; unfold lkLt at *; omega
  ntrans x y z h1 h2 := by rw [lk_no] at *; unfold lkLt at *; omega
/-- Links put in order. -/
theorem sort_links {E : Env} {w : World} {F : List HP} {v : Value} {l : List (Int × Int × Int)} (hl : l.length ≤ 1000000000) (hw : Sat E w (Row 82 3 v l.length (flat (l.map fun x => (lkC x).toArray)) :: F)) :
    Calls Try.prog 58 #[v, .func (.func 56) #[] #[]] w fun e w' => e = .returned (.tuple #[]) ∧ ∃ l' : List (Int × Int × Int), l'.Perm l ∧ l'.Pairwise (fun x y => ¬ lkLt y x) ∧ Sat E w' (Row 82 3 v l.length (flat (l'.map fun x => (lkC x).toArray)) :: F) := by
  have h := sort_row sortL (k := 3) (by omega) Try.isAgg82 Try.sizeOf82 (enc := lkC) (fun _ => rfl) (fun x v hv => by simp [lkC] at hv; rcases hv with rfl | rfl | rfl <;> rfl) lk3 lk_swo 56 (enters_of Try.func56 (by kernel_rfl) rfl) order_walk hl hw
  refine h.mono fun e w' ⟨he, l', h1, h2, h3⟩ => ⟨he, l', h1, h2.imp fun h => ?_, h3⟩
  exact (lk_no _ _).1 h
end Go.Proofs.Ytbkfhieadnfndaa
