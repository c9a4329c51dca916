/- watch: known; two cores' lines (pairs). Conditions: none. -/
import Derived.Test.YtklhmlplabkoeaaEdg
import Derived.Test.YtklhmlplabkoeaaWchN
set_option linter.unusedVariables false
set_option linter.unusedSimpArgs false
namespace Go.Proofs.Ytklhmlplabkoeaa
open Go.RowKit Go.Bst Go.MapKept Go.Proofs.YtklhmlplabkoeaaW.PrintLast
/-- The marks: alone, known, unlike, places. -/
structure Mk where
  a : Bool
  k : Bool
  u : Bool
  d : Bool
def Mk.cs (m : Mk) : Array Value := #[.bool false, .bool m.a, .bool m.k, .bool m.u, .bool false, .bool m.d, .bool false, .bool false, .bool false]
section
variable {P : Program} {w : World} {o : Oper} {a : Act}
theorem rn_makeFunc1 {f : FuncId} {x : Operand} {u : Value} (ho : o.op = .makeFunc (.func f) #[] #[x]) (hx : a.eval x = u) : (execOp a.eval o).run P w = .ok (.value (.func (.func f) #[] #[u])) w := by
  rw [rn_makeFunc ho]; simp [hx]
theorem rn_makeFunc2 {f : FuncId} {x y : Operand} {u v : Value} (ho : o.op = .makeFunc (.func f) #[] #[x, y]) (hx : a.eval x = u) (hy : a.eval y = v) : (execOp a.eval o).run P w = .ok (.value (.func (.func f) #[] #[u, v])) w := by
  rw [rn_makeFunc ho]; simp [hx, hy]
end
/-- Slices of lines that stand somewhere. -/
def FarsRd (E : Env) (F : List HP) (bs : List Bav) : Prop := ∀ b ∈ bs, b.ls.length ≤ 1000 ∧ ∀ w', Sat E w' F → Rd w' 36 (.slice b.A b.ls.length b.cap) b.ls.length (flat (b.ls.map Fav.cs))
def NearsRd (E : Env) (F : List HP) (x : Cov) : Prop := x.ls.length ≤ 1000 ∧ ∀ w', Sat E w' F → Rd w' 34 (.slice x.A x.ls.length x.cap) x.ls.length (flat (x.ls.map Nev.cs))
section
variable {E : Env} {w : World} {F : List HP} {p : Pl}
attribute [local irreducible] andI hasF knowsB knownF wpList Calls Code.wp Code.wpN Oper.wp Go.Proofs.YtklhmlplabkoeaaW.PrintLast.wpAnyLast
theorem wch_mark1 {b : Nat} {m : Mk} {fo : Bool} (hw : Sat E w (pt b (.cells m.cs 73 (0, 0)) :: F)) : Calls Try.prog 41 #[.pointer (some ⟨b, 0, none⟩), .int .i64 1, .bool fo] w fun e w' => e = .returned (.tuple #[]) ∧ Sat E w' (pt b (.cells (Mk.mk (m.a || fo) m.k m.u m.d).cs 73 (0, 0)) :: F) :=
  wch_mark (k := 1) (v := m.a) (by decide) rfl rfl hw
theorem wch_mark2 {b : Nat} {m : Mk} {fo : Bool} (hw : Sat E w (pt b (.cells m.cs 73 (0, 0)) :: F)) : Calls Try.prog 41 #[.pointer (some ⟨b, 0, none⟩), .int .i64 2, .bool fo] w fun e w' => e = .returned (.tuple #[]) ∧ Sat E w' (pt b (.cells (Mk.mk m.a (m.k || fo) m.u m.d).cs 73 (0, 0)) :: F) :=
  wch_mark (k := 2) (v := m.k) (by decide) rfl rfl hw
theorem wch_mark3 {b : Nat} {m : Mk} {fo : Bool} (hw : Sat E w (pt b (.cells m.cs 73 (0, 0)) :: F)) : Calls Try.prog 41 #[.pointer (some ⟨b, 0, none⟩), .int .i64 3, .bool fo] w fun e w' => e = .returned (.tuple #[]) ∧ Sat E w' (pt b (.cells (Mk.mk m.a m.k (m.u || fo) m.d).cs 73 (0, 0)) :: F) :=
  wch_mark (k := 3) (v := m.u) (by decide) rfl rfl hw
theorem wch_mark5 {b : Nat} {m : Mk} {fo : Bool} (hw : Sat E w (pt b (.cells m.cs 73 (0, 0)) :: F)) : Calls Try.prog 41 #[.pointer (some ⟨b, 0, none⟩), .int .i64 5, .bool fo] w fun e w' => e = .returned (.tuple #[]) ∧ Sat E w' (pt b (.cells (Mk.mk m.a m.k m.u (m.d || fo)).cs 73 (0, 0)) :: F) :=
  wch_mark (k := 5) (v := m.d) (by decide) rfl rfl hw
theorem knownF_no {bs : List Bav} {l c : Int} (h : lineB p l = false) : knownF p bs l c = false := by unfold knownF; rw [h]; rfl
theorem knownF_out {bs : List Bav} {l c : Int} {k : Nat} (hk : Int.tmod l p.banks = k) (hn : bs.length ≤ k) : knownF p bs l c = false := by
  unfold knownF
  rw [hk, Int.toNat_natCast, List.getElem?_eq_none hn]; simp
theorem knownF_at {bs : List Bav} {b : Bav} {l c : Int} {k : Nat} (h : lineB p l = true) (hk : Int.tmod l p.banks = k) (hb : bs[k]? = some b) : knownF p bs l c = knowsB l c b.ls := by
  unfold knownF
  rw [h, hk, Int.toNat_natCast, hb]; simp
theorem bank_in {l : Int} (h : lineB p l = true) : ∃ k : Nat, Int.tmod l p.banks = k ∧ k < 4 := by
  unfold lineB at h
  simp only [Bool.and_eq_true, decide_eq_true_eq] at h
  have h2 := shB_iff.1 (rightB_iff.1 h.1.1).1
  have h3 := Int.tmod_nonneg p.banks h.1.2
  have h4 := Int.tmod_lt_of_pos l (b := p.banks) (by omega)
  exact ⟨(Int.tmod l p.banks).toNat, by omega, by omega⟩
set_option maxRecDepth 100000 in
theorem wch_contains {ls : List Fav} {A : Option Addr} {l c : Int} {b1 b2 n cap : Nat} (hc : 0 ≤ c) (h1 : ∀ w', Sat E w' F → w'.heap[b1]? = some (.cells #[.int .i64 l] 3 (0, 0))) (h2 : ∀ w', Sat E w' F → w'.heap[b2]? = some (.cells #[.int .i64 c] 3 (0, 0))) (hw : Sat E w F)
    (hn : ls.length = n) (hn2 : n ≤ 1000) (hr : ∀ w', Sat E w' F → Rd w' 36 (.slice A ls.length cap) ls.length (flat (ls.map Fav.cs))) :
    Calls Try.prog 65 #[.slice A n cap, .func (.func 66) #[] #[.pointer (some ⟨b1, 0, none⟩), .pointer (some ⟨b2, 0, none⟩)]] w fun e w' => e = .returned (.bool (knowsB l c ls)) ∧ Sat E w' F := by
  have HR := Kp.mk hr
  have H1 := Kp.mk h1
  have H2 := Kp.mk h2
  have HN := Kp.mk hn
  clear hr h1 h2 hn
  go_enter Try.func65, Try.ntmps65
  go_wp2_with (first | (go_at_call 71; go_must (refine (Calls.mono (wch_index hc H1.out H2.out hw HN.out hn2 HR.out) ?_)); clear hw; rintro e w (⟨i, hi, hT, rfl, hw⟩ | ⟨hT, rfl, hw⟩)))
  all_goals (
    have HT := Kp.mk hT
    clear hT
    go_wp2_with (first | (refine wl_run (d := some 8) (rn_cgeq rfl (by exact rfl) (by exact rfl) true (decide_eq_true (by omega))) ?_) | (refine wl_run (d := some 8) (rn_cgeq rfl (by exact rfl) (by exact rfl) false (decide_eq_false (by omega))) ?_))
    go_ret
    exact ⟨by rw [HT.out]; rfl, hw⟩)
set_option maxRecDepth 100000 in
theorem wch_known {bs : List Bav} {A : Option Addr} {cap : Nat} {l c : Int} (hc : 0 ≤ c) (hw : Sat E w F) (hn : bs.length ≤ 1000) (hr : ∀ w', Sat E w' F → Rd w' 44 (.slice A bs.length cap) bs.length (flat (bs.map Bav.cs))) (hf : FarsRd E F bs) :
    Calls Try.prog 42 #[.agg p.cs, .slice A bs.length cap, .int .i64 l, .int .i64 c] w fun e w' => e = .returned (.bool (knownF p bs l c)) ∧ Sat E w' F := by
  have HR := Kp.mk hr
  have HF := Kp.mk hf
  clear hr hf
  cases hl : lineB p l with
  | false =>
    have e := Kp.mk (knownF_no (bs := bs) (c := c) hl)
    have HL := Kp.mk hl
    clear hl
    rw [e.out]
    go_enter Try.func42, Try.ntmps42
    go_wp2_with (first
      | (go_at_call 48; go_must (refine (Calls.mono (reg_Bank (p := p) (n := l) hw) ?_)); clear hw; rintro e w ⟨rfl, hw⟩; rw [HL.out]; simp only [Bool.false_eq_true, if_false]; (try simp only [List.set_cons_succ, List.set_cons_zero, List.setIfInBounds_toArray, Value.cells, List.eraseIdx_cons_succ, List.eraseIdx_cons_zero] at hw))
      | (refine wl_box (d := some 4) hw _ (by simp only [Act.eval, Act.put, List.setIfInBounds_toArray, List.set_cons_succ, List.set_cons_zero, gd_s, gd_0, Value.cells]; exact rfl) ?_; clear hw; intro b4 w hw; (try simp only [List.set_cons_succ, List.set_cons_zero, List.setIfInBounds_toArray, Value.cells, List.eraseIdx_cons_succ, List.eraseIdx_cons_zero] at hw)) | (refine wl_box (d := some 6) hw _ (by simp only [Act.eval, Act.put, List.setIfInBounds_toArray, List.set_cons_succ, List.set_cons_zero, gd_s, gd_0, Value.cells]; exact rfl) ?_; clear hw; intro b6 w hw; (try simp only [List.set_cons_succ, List.set_cons_zero, List.setIfInBounds_toArray, Value.cells, List.eraseIdx_cons_succ, List.eraseIdx_cons_zero] at hw)) | (refine wl_box (d := some 7) hw _ (by simp only [Act.eval, Act.put, List.setIfInBounds_toArray, List.set_cons_succ, List.set_cons_zero, gd_s, gd_0, Value.cells]; exact rfl) ?_; clear hw; intro b7 w hw; (try simp only [List.set_cons_succ, List.set_cons_zero, List.setIfInBounds_toArray, Value.cells, List.eraseIdx_cons_succ, List.eraseIdx_cons_zero] at hw)) | (refine wb_loadA (d := some 12)  rfl (by first | exact hw.read 0 rfl | exact hw.read 1 rfl | exact hw.read 2 rfl | exact hw.read 3 rfl | exact hw.read 4 rfl) (by rw [plan_agg, Pl.size]) ?_) | (refine wb_load1 (d := some 13)  rfl (by first | exact hw.read 0 rfl | exact hw.read 1 rfl | exact hw.read 2 rfl | exact hw.read 3 rfl | exact hw.read 4 rfl) (by decide +kernel) (by simp only [List.getElem?_toArray, List.getElem?_cons_succ, List.getElem?_cons_zero]; exact rfl) ?_) | (refine wg_run (d := some 23) (by rfl) (rn_cgeq rfl (by exact rfl) (by exact rfl) true (decide_eq_true (by omega))) ?_) | (refine wg_run (d := some 23) (by rfl) (rn_cgeq rfl (by exact rfl) (by exact rfl) false (decide_eq_false (by omega))) ?_))
    go_ret
    exact ⟨rfl, (Sat.gets hw (by repeat (first | exact Gets.nil | exact Gets.refl _ | refine Gets.get 0 rfl ?_ | refine Gets.get 1 rfl ?_ | refine Gets.get 2 rfl ?_ | refine Gets.get 3 rfl ?_ | refine Gets.get 4 rfl ?_ | refine Gets.get 5 rfl ?_ | refine Gets.drop ?_)))⟩
  | true =>
    obtain ⟨k, hk, hk4⟩ := bank_in hl
    have HK := Kp.mk hk
    have HL := Kp.mk hl
    clear hl hk
    obtain ⟨N, hN⟩ : ∃ N, Kp (bs.length = N) := ⟨_, Kp.mk rfl⟩
    rw [hN.out] at hn ⊢
    by_cases hlt : k < N
    · obtain ⟨b, hb⟩ : ∃ b, bs[k]? = some b := ⟨_, List.getElem?_eq_getElem (by rw [hN.out]; exact hlt)⟩
      have e := Kp.mk (knownF_at (c := c) HL.out HK.out hb)
      rw [e.out]
      obtain ⟨gb, q, rfl, hcell⟩ := rd_el (f := Bav.cs) Bav.size (by decide) HR.out hw hb
      have HC := Kp.mk (show ∀ w', Sat E w' F → w'.cell? ⟨gb, q + k * 44 + 43, none⟩ = some (.slice b.A b.ls.length b.cap) from fun w' h => hcell w' h 43 _ (by simpa using b.c43))
      obtain ⟨hbl, hbr⟩ := HF.out b (List.mem_of_getElem? hb)
      have HB := Kp.mk hbr
      clear hcell hb hbr
      go_enter Try.func42, Try.ntmps42
      go_wp2_with (first
        | (go_at_call 48; go_must (refine (Calls.mono (reg_Bank (p := p) (n := l) hw) ?_)); clear hw; rintro e w ⟨rfl, hw⟩; rw [HL.out, HK.out]; simp only [if_true]; (try simp only [List.set_cons_succ, List.set_cons_zero, List.setIfInBounds_toArray, Value.cells, List.eraseIdx_cons_succ, List.eraseIdx_cons_zero] at hw))
        | (refine wl_run (d := some 27) (rn_rdIdx rfl rfl rfl u_banks bav_info hlt) ?_)
        | (refine wl_run (d := some 29) (rn_rdLd1 rfl rfl (by decide +kernel) (HC.out _ (by first | exact hw | exact hw.tail | exact hw.tail.tail | exact hw.tail.tail.tail | exact hw.tail.tail.tail.tail | exact hw.tail.tail.tail.tail.tail | exact hw.tail.tail.tail.tail.tail.tail))) ?_)
        | (refine wl_run (rn_makeFunc2 rfl rfl rfl) ?_)
        | (go_at_call 65; go_must (refine (Calls.mono (wch_contains (l := l) (c := c) (ls := b.ls) hc (fun w' hs => by first | exact hs.read 0 rfl | exact hs.read 1 rfl | exact hs.read 2 rfl) (fun w' hs => by first | exact hs.read 0 rfl | exact hs.read 1 rfl | exact hs.read 2 rfl) hw rfl hbl (fun w' hs => HB.out w' (by first | exact hs | exact hs.tail | exact hs.tail.tail | exact hs.tail.tail.tail | exact hs.tail.tail.tail.tail | exact hs.tail.tail.tail.tail.tail | exact hs.tail.tail.tail.tail.tail.tail))) ?_)); clear hw; rintro e w ⟨rfl, hw⟩; (try simp only [List.set_cons_succ, List.set_cons_zero, List.setIfInBounds_toArray, Value.cells, List.eraseIdx_cons_succ, List.eraseIdx_cons_zero] at hw))
        | (refine wl_box (d := some 4) hw _ (by simp only [Act.eval, Act.put, List.setIfInBounds_toArray, List.set_cons_succ, List.set_cons_zero, gd_s, gd_0, Value.cells]; exact rfl) ?_; clear hw; intro b4 w hw; (try simp only [List.set_cons_succ, List.set_cons_zero, List.setIfInBounds_toArray, Value.cells, List.eraseIdx_cons_succ, List.eraseIdx_cons_zero] at hw)) | (refine wl_box (d := some 6) hw _ (by simp only [Act.eval, Act.put, List.setIfInBounds_toArray, List.set_cons_succ, List.set_cons_zero, gd_s, gd_0, Value.cells]; exact rfl) ?_; clear hw; intro b6 w hw; (try simp only [List.set_cons_succ, List.set_cons_zero, List.setIfInBounds_toArray, Value.cells, List.eraseIdx_cons_succ, List.eraseIdx_cons_zero] at hw)) | (refine wl_box (d := some 7) hw _ (by simp only [Act.eval, Act.put, List.setIfInBounds_toArray, List.set_cons_succ, List.set_cons_zero, gd_s, gd_0, Value.cells]; exact rfl) ?_; clear hw; intro b7 w hw; (try simp only [List.set_cons_succ, List.set_cons_zero, List.setIfInBounds_toArray, Value.cells, List.eraseIdx_cons_succ, List.eraseIdx_cons_zero] at hw)) | (refine wb_loadA (d := some 12)  rfl (by first | exact hw.read 0 rfl | exact hw.read 1 rfl | exact hw.read 2 rfl | exact hw.read 3 rfl | exact hw.read 4 rfl) (by rw [plan_agg, Pl.size]) ?_) | (refine wb_load1 (d := some 13)  rfl (by first | exact hw.read 0 rfl | exact hw.read 1 rfl | exact hw.read 2 rfl | exact hw.read 3 rfl | exact hw.read 4 rfl) (by decide +kernel) (by simp only [List.getElem?_toArray, List.getElem?_cons_succ, List.getElem?_cons_zero]; exact rfl) ?_) | (refine wg_run (d := some 23) (by rfl) (rn_cgeq rfl (by exact rfl) (by exact rfl) true (decide_eq_true (by omega))) ?_) | (refine wg_run (d := some 23) (by rfl) (rn_cgeq rfl (by exact rfl) (by exact rfl) false (decide_eq_false (by omega))) ?_))
      go_ret
      exact ⟨rfl, (Sat.gets hw (by repeat (first | exact Gets.nil | exact Gets.refl _ | refine Gets.get 0 rfl ?_ | refine Gets.get 1 rfl ?_ | refine Gets.get 2 rfl ?_ | refine Gets.get 3 rfl ?_ | refine Gets.get 4 rfl ?_ | refine Gets.get 5 rfl ?_ | refine Gets.drop ?_)))⟩
    · have e := Kp.mk (knownF_out (bs := bs) (c := c) HK.out (by rw [hN.out]; omega))
      rw [e.out]
      go_enter Try.func42, Try.ntmps42
      go_wp2_with (first
        | (go_at_call 48; go_must (refine (Calls.mono (reg_Bank (p := p) (n := l) hw) ?_)); clear hw; rintro e w ⟨rfl, hw⟩; rw [HL.out, HK.out]; simp only [if_true]; (try simp only [List.set_cons_succ, List.set_cons_zero, List.setIfInBounds_toArray, Value.cells, List.eraseIdx_cons_succ, List.eraseIdx_cons_zero] at hw))
        | (refine wl_box (d := some 4) hw _ (by simp only [Act.eval, Act.put, List.setIfInBounds_toArray, List.set_cons_succ, List.set_cons_zero, gd_s, gd_0, Value.cells]; exact rfl) ?_; clear hw; intro b4 w hw; (try simp only [List.set_cons_succ, List.set_cons_zero, List.setIfInBounds_toArray, Value.cells, List.eraseIdx_cons_succ, List.eraseIdx_cons_zero] at hw)) | (refine wl_box (d := some 6) hw _ (by simp only [Act.eval, Act.put, List.setIfInBounds_toArray, List.set_cons_succ, List.set_cons_zero, gd_s, gd_0, Value.cells]; exact rfl) ?_; clear hw; intro b6 w hw; (try simp only [List.set_cons_succ, List.set_cons_zero, List.setIfInBounds_toArray, Value.cells, List.eraseIdx_cons_succ, List.eraseIdx_cons_zero] at hw)) | (refine wl_box (d := some 7) hw _ (by simp only [Act.eval, Act.put, List.setIfInBounds_toArray, List.set_cons_succ, List.set_cons_zero, gd_s, gd_0, Value.cells]; exact rfl) ?_; clear hw; intro b7 w hw; (try simp only [List.set_cons_succ, List.set_cons_zero, List.setIfInBounds_toArray, Value.cells, List.eraseIdx_cons_succ, List.eraseIdx_cons_zero] at hw)) | (refine wb_loadA (d := some 12)  rfl (by first | exact hw.read 0 rfl | exact hw.read 1 rfl | exact hw.read 2 rfl | exact hw.read 3 rfl | exact hw.read 4 rfl) (by rw [plan_agg, Pl.size]) ?_) | (refine wb_load1 (d := some 13)  rfl (by first | exact hw.read 0 rfl | exact hw.read 1 rfl | exact hw.read 2 rfl | exact hw.read 3 rfl | exact hw.read 4 rfl) (by decide +kernel) (by simp only [List.getElem?_toArray, List.getElem?_cons_succ, List.getElem?_cons_zero]; exact rfl) ?_) | (refine wg_run (d := some 23) (by rfl) (rn_cgeq rfl (by exact rfl) (by exact rfl) true (decide_eq_true (by omega))) ?_) | (refine wg_run (d := some 23) (by rfl) (rn_cgeq rfl (by exact rfl) (by exact rfl) false (decide_eq_false (by omega))) ?_))
      go_ret
      exact ⟨rfl, (Sat.gets hw (by repeat (first | exact Gets.nil | exact Gets.refl _ | refine Gets.get 0 rfl ?_ | refine Gets.get 1 rfl ?_ | refine Gets.get 2 rfl ?_ | refine Gets.get 3 rfl ?_ | refine Gets.get 4 rfl ?_ | refine Gets.get 5 rfl ?_ | refine Gets.drop ?_)))⟩
end
end Go.Proofs.Ytklhmlplabkoeaa
