/- The document's book (bastionref04.Book) in memory; Find. Conditions: none. -/
import Derived.Test.YtidkfjgelcpieaaMacMa
import Derived.Test.YtidkfjgelcpieaaMacRm
set_option linter.unusedVariables false
set_option linter.unusedSimpArgs false
namespace Go.Proofs.Ytidkfjgelcpieaa
open Go.RowKit Go.Bst Go.MapKept Go.Proofs.YtidkfjgelcpieaaW.PrintLast
attribute [local irreducible] sumOf wpList Calls Code.wp Code.wpN Oper.wp Go.Proofs.YtidkfjgelcpieaaW.PrintLast.wpAnyLast

/-- The cells of the document's book. -/
structure RCs (cs : Array Value) (kd : Int) (key : List UInt8) (v1 v2 : Value) : Prop where
  size : cs.size = 19
  c0 : cs[0]? = some (.int .i64 kd)
  ck : cs.extract 1 17 = (ybs key).toArray
  c17 : cs[17]? = some v1
  c18 : cs[18]? = some v2
theorem RCs.set17 {cs : Array Value} {kd : Int} {key : List UInt8} {v1 v2 : Value} (h : RCs cs kd key v1 v2) (v : Value) : RCs (cs.setIfInBounds 17 v) kd key v v2 := by
  have hs := h.size
  refine ⟨by simp [hs], by rw [Array.getElem?_setIfInBounds_ne (by omega)]; exact h.c0, ?_, by simp [hs], by rw [Array.getElem?_setIfInBounds_ne (by omega)]; exact h.c18⟩
  rw [← h.ck]
  apply Array.ext_getElem?
  intro i
  simp only [Array.getElem?_extract]
  by_cases hi : i < min 17 (cs.setIfInBounds 17 v).size - 1
  · have hi2 : i < min 17 cs.size - 1 := by simpa using hi
    rw [if_pos hi, if_pos hi2, Array.getElem?_setIfInBounds_ne (by omega)]
  · have hi2 : ¬ i < min 17 cs.size - 1 := by simpa using hi
    rw [if_neg hi, if_neg hi2]
theorem RCs.set18 {cs : Array Value} {kd : Int} {key : List UInt8} {v1 v2 : Value} (h : RCs cs kd key v1 v2) (v : Value) : RCs (cs.setIfInBounds 18 v) kd key v1 v := by
  have hs := h.size
  refine ⟨by simp [hs], by rw [Array.getElem?_setIfInBounds_ne (by omega)]; exact h.c0, ?_, by rw [Array.getElem?_setIfInBounds_ne (by omega)]; exact h.c17, by simp [hs]⟩
  rw [← h.ck]
  apply Array.ext_getElem?
  intro i
  simp only [Array.getElem?_extract]
  by_cases hi : i < min 17 (cs.setIfInBounds 18 v).size - 1
  · have hi2 : i < min 17 cs.size - 1 := by simpa using hi
    rw [if_pos hi, if_pos hi2, Array.getElem?_setIfInBounds_ne (by omega)]
  · have hi2 : ¬ i < min 17 cs.size - 1 := by simpa using hi
    rw [if_neg hi, if_neg hi2]
structure RBookOk (s : Bk) (kd : Int) (key : List UInt8) (cs : Array Value) (v1 v2 : Value) (ml : List (Value × Mk)) (bl : List ((Value × Value) × Bd)) (h : PH) : Prop where
  cells : RCs cs kd key v1 v2
  mm : ml.map (·.2) = s.ms
  bb : bl.map (·.2) = s.bs
  mr : MarksOk ml h
  br : BadsOk bl h
  kk : s.key = keyOf kd key
  kl : key.length = 16
  k01 : kd = 0 ∨ kd = 1
def RBook (b : Nat) (kd : Int) (key : List UInt8) (s : Bk) : HP := exH fun cs : Array Value => exH fun ml : List (Value × Mk) => exH fun bl : List ((Value × Value) × Bd) => exH fun h : PH => exH fun v1 => exH fun v2 => andH (RBookOk s kd key cs v1 v2 ml bl h) <|
  star [pt b (.cells cs 64 (0, 0)), Row 54 2 v1 ml.length (flat (ml.map mcell)), Row 60 4 v2 bl.length (flat (bl.map bcell)), Arc h]
section
variable {E : Env} {w : World} {F : List HP} {b : Nat} {s : Bk} {kd : Int} {key : List UInt8}
theorem RBook_open (hw : Sat E w (RBook b kd key s :: F)) : ∃ cs ml bl h v1 v2, RBookOk s kd key cs v1 v2 ml bl h ∧ Sat E w (pt b (.cells cs 64 (0, 0)) :: Row 54 2 v1 ml.length (flat (ml.map mcell)) :: Row 60 4 v2 bl.length (flat (bl.map bcell)) :: Arc h :: F) := by
  obtain ⟨cs, h2⟩ := hw.ex
  obtain ⟨ml, h2⟩ := h2.ex
  obtain ⟨bl, h2⟩ := h2.ex
  obtain ⟨h, h2⟩ := h2.ex
  obtain ⟨v1, h2⟩ := h2.ex
  obtain ⟨v2, h2⟩ := h2.ex
  obtain ⟨ok, h2⟩ := h2.and
  exact ⟨cs, ml, bl, h, v1, v2, ok, h2.flat⟩
theorem RBook_shut {cs : Array Value} {ml : List (Value × Mk)} {bl : List ((Value × Value) × Bd)} {h : PH} {v1 v2 : Value} (ok : RBookOk s kd key cs v1 v2 ml bl h)
    (hw : Sat E w (pt b (.cells cs 64 (0, 0)) :: Row 54 2 v1 ml.length (flat (ml.map mcell)) :: Row 60 4 v2 bl.length (flat (bl.map bcell)) :: Arc h :: F)) : Sat E w (RBook b kd key s :: F) :=
  Sat.ex_mk cs (Sat.ex_mk ml (Sat.ex_mk bl (Sat.ex_mk h (Sat.ex_mk v1 (Sat.ex_mk v2 (Sat.and_mk ok (Sat.fold (K := [_, _, _, _]) hw)))))))
/-- What Find answers. -/
def findR (ms : List Mk) (m : List UInt8) : Int := match idx ms m with
  | some i => (i : Int)
  | none => -1
theorem idx_take {ms : List Mk} {m : List UInt8} {k : Nat} (h : idx (ms.take k) m = none) {x : Mk} (hx : ms[k]? = some x) : (x.msg = m → idx ms m = some k) ∧ (x.msg ≠ m → idx (ms.take (k + 1)) m = none) := by
  have hk : k < ms.length := (List.getElem?_eq_some_iff.1 hx).1
  have e : ms.take (k + 1) = ms.take k ++ [x] := by rw [List.take_add_one, hx]; rfl
  have hl : (ms.take k).length = k := by simp; omega
  constructor
  · intro hm
    have h2 : idx (ms.take (k + 1)) m = some k := by rw [e, idx_app, h, hl]; simp [hm]
    have h3 : ms = ms.take (k + 1) ++ ms.drop (k + 1) := (List.take_append_drop _ _).symm
    unfold idx at h2 ⊢
    rw [h3, List.findIdx?_append, h2]
    rfl
  · intro hm
    rw [e, idx_app, h]; simp [hm]
set_option maxRecDepth 100000 in
set_option maxHeartbeats 2000000 in
theorem ref_Find {v : Value} {m : List UInt8} (hw : Sat E w (RBook b kd key s :: F)) (hR : ∀ w', Sat E w' F → Rd w' 1 v m.length (ybs m)) (hn : s.ms.length ≤ 100000) (hml : ∀ x ∈ s.ms, x.msg.length ≤ 1000000) :
    Calls Try.prog 30 #[.pointer (some ⟨b, 0, none⟩), v] w fun e w' => e = .returned (.int .i64 (findR s.ms m)) ∧ Sat E w' (RBook b kd key s :: F) := by
  obtain ⟨cs, ml, bl, h, v1, v2, ok, hw⟩ := RBook_open hw
  obtain ⟨A1, c1, rfl, _, hg1⟩ := Row_val hw 1 rfl
  have hln : ml.length ≤ 100000 := by rw [← ok.mm, List.length_map] at hn; exact hn
  have OK := Kp.mk ok
  have HML := Kp.mk hml
  have HR := Kp.mk hR
  clear ok hml hR hn
  go_enter Try.func30, Try.ntmps30
  go_wp2
  go_loopw [5] (fun i wr => ∃ k : Nat, k ≤ ml.length ∧ i = .int .i64 k ∧ Kp (idx (s.ms.take k) m = none) ∧ Sat E wr (pt b (.cells cs 64 (0, 0)) :: Row 54 2 (.slice A1 ml.length c1) ml.length (flat (ml.map mcell)) :: Row 60 4 v2 bl.length (flat (bl.map bcell)) :: Arc h :: F)) (fun i _ => ml.length - (intOf i).toNat)
  case atStart => exact ⟨0, by omega, rfl, Kp.mk (by rfl), hw⟩
  case round =>
    clear hw
    obtain ⟨k, hk, rfl, hno, hw⟩ := hrel
    by_cases hlt : k < ml.length
    · obtain ⟨g1, rfl⟩ := hg1 (by omega)
      obtain ⟨⟨vx, x⟩, hx⟩ : ∃ p, ml[k]? = some p := ⟨_, List.getElem?_eq_getElem hlt⟩
      have hxs : s.ms[k]? = some x := by rw [← OK.out.mm, List.getElem?_map, hx]; rfl
      have hxr : RdP h 1 vx x.msg.length (ybs x.msg) := OK.out.mr (vx, x) (List.mem_of_getElem? hx)
      have hxl := HML.out x (List.mem_of_getElem? hxs)
      obtain ⟨i1, i2⟩ := idx_take hno.out hxs
      have I1 := Kp.mk i1
      have I2 := Kp.mk i2
      have hc1 := mcell_at hx 0 vx rfl
      have hkl : (k : Int) < (ml.length : Int) := by omega
      clear hx hxs i1 i2 hg1
      by_cases hxm : x.msg = m
      · have hf := Kp.mk (show findR s.ms m = (k : Int) by unfold findR; rw [I1.out hxm])
        have hb := Kp.mk (show (x.msg == m) = true by simp [hxm])
        clear hxm
        go_wp2_with (first
          | (refine wl_load1 hw rfl 0 rfl (by decide +kernel) OK.out.cells.c17 ?_)
          | (refine wl_rowIdx k (k * 2) rfl hw rfl rfl 1 rfl u_marks mark_size hlt ?_)
          | (refine wl_rowLd1 (j := k * 2 + 0) hw rfl rfl 1 rfl (by decide +kernel) _ hc1 ?_)
          | (go_at_call 40; go_must (refine (ref_Same (l := x.msg) (m := m) hw (fun w' hs => hxr.rd hs 3 rfl) (fun w' hs => HR.out w' hs.tail.tail.tail.tail) hxl).mono ?_); clear hw; rw [hb.out]; rintro e w ⟨rfl, hw⟩))
        go_ret
        exact ⟨by rw [hf.out]; rfl, RBook_shut OK.out hw⟩
      · have hn2 := Kp.mk (I2.out hxm)
        have hb := Kp.mk (show (x.msg == m) = false by simp [hxm])
        clear hxm
        go_wp2_with (first
          | (refine wl_load1 hw rfl 0 rfl (by decide +kernel) OK.out.cells.c17 ?_)
          | (refine wl_rowIdx k (k * 2) rfl hw rfl rfl 1 rfl u_marks mark_size hlt ?_)
          | (refine wl_rowLd1 (j := k * 2 + 0) hw rfl rfl 1 rfl (by decide +kernel) _ hc1 ?_)
          | (go_at_call 40; go_must (refine (ref_Same (l := x.msg) (m := m) hw (fun w' hs => hxr.rd hs 3 rfl) (fun w' hs => HR.out w' hs.tail.tail.tail.tail) hxl).mono ?_); clear hw; rw [hb.out]; rintro e w ⟨rfl, hw⟩))
        go_roundw
        case rel => exact ⟨k + 1, by omega, by go_num, hn2, hw⟩
        case measure => simp [intOf]; omega
    · have hkl : k = ml.length := by omega
      subst hkl
      have hf := Kp.mk (show findR s.ms m = -1 by
        have h1 := hno.out
        rw [← OK.out.mm, List.take_of_length_le (by simp), OK.out.mm] at h1
        unfold findR; rw [h1])
      go_wp2_with (first
        | (refine wl_load1 hw rfl 0 rfl (by decide +kernel) OK.out.cells.c17 ?_))
      go_ret
      exact ⟨by rw [hf.out]; rfl, RBook_shut OK.out hw⟩
end
end Go.Proofs.Ytidkfjgelcpieaa
