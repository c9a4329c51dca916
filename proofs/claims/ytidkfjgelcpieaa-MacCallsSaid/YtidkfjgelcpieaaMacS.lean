/- The example of package mac's document; the laws' calls. Conditions: none. -/
import Derived.Test.YtidkfjgelcpieaaMacM
import Derived.Test.YtidkfjgelcpieaaLiftN
set_option linter.unusedVariables false
set_option linter.unusedSimpArgs false
namespace Go.Proofs.Ytidkfjgelcpieaa
open Go.RowKit Go.Bst Go.MapKept Go.Proofs.YtidkfjgelcpieaaW.PrintLast
attribute [local irreducible] wpList Calls Code.wp Code.wpN Oper.wp Go.Proofs.YtidkfjgelcpieaaW.PrintLast.wpAnyLast

def sp0 : Bk := ⟨none, [], []⟩
def mA : List UInt8 := [UInt8.ofNat 97]
def mB : List UInt8 := [UInt8.ofNat 98]
def sp1 : Bk := sp0.tagS mA
def sp2 : Bk := sp1.tagS mB
def sp3 : Bk := sp2.tagS mA
def sp4 : Bk := sp3.verS mA (BitVec.ofNat 64 2)
def key0V : List UInt8 := List.replicate 16 0
theorem key0V_build : buildC Try.prog 23 [] = some (ybs key0V).toArray := by kernel_rfl
section
variable {E : Env} {w : World} {F : List HP}
set_option maxRecDepth 100000 in
set_option maxHeartbeats 4000000 in
theorem mac_speaks (hw : Sat E w F) :
    Calls Try.prog 20 #[] w fun e w' => e = .returned (.bool true) ∧ Sat E w' F := by
  have q1 := Kp.mk (show (sp0.tagR mA == BitVec.ofNat 64 1) = true by decide +kernel)
  have q2 := Kp.mk (show (sp1.tagR mB == BitVec.ofNat 64 2) = true by decide +kernel)
  have q3 := Kp.mk (show (sp2.tagR mA == BitVec.ofNat 64 1) = true by decide +kernel)
  have q4 := Kp.mk (show sp3.fits mA (BitVec.ofNat 64 2) = false by decide +kernel)
  have q5 := Kp.mk (show sp4.fits mB (BitVec.ofNat 64 2) = true by decide +kernel)
  go_enter Try.func20, Try.ntmps20
  go_wp2_with (first
    | (refine wl_build (t := 23) (ybs key0V).toArray rfl key0V_build ?_)
    | (go_at_call 21; refine (mac_new_ideal (k := key0V) hw).mono ?_; clear hw; rintro e w ⟨b, rfl, hw⟩; replace hw : Sat E w (Book b sp0 :: F) := hw)
    | (refine wl_want (by rfl) (fun K hK => ?_); refine wk_lit1 (el := 5) (sz := 1) (v := Y (UInt8.ofNat 97)) hw (Y_lit 97 (by decide)) (by kernel_rfl) (by kernel_rfl) (by kernel_rfl) (by rw [Y_cells]; rfl) (by omega) (by omega) ?_; clear hw; intro bl w hw; (try simp only [Y_cells] at hw); refine hK _ _ ?_; clear hK K)
    | (refine wl_want (by rfl) (fun K hK => ?_); refine wk_lit1 (el := 5) (sz := 1) (v := Y (UInt8.ofNat 98)) hw (Y_lit 98 (by decide)) (by kernel_rfl) (by kernel_rfl) (by kernel_rfl) (by rw [Y_cells]; rfl) (by omega) (by omega) ?_; clear hw; intro bl w hw; (try simp only [Y_cells] at hw); refine hK _ _ ?_; clear hK K)
    | (refine wl_want (by rfl) (fun K hK => ?_); refine wk_bytesLit rfl hw 0 rfl rfl u_bytes u_u8 ?_; clear hw; intro w hw; (try simp only [List.set_cons_succ, List.set_cons_zero, List.setIfInBounds_toArray, Value.cells, List.eraseIdx_cons_succ, List.eraseIdx_cons_zero] at hw); refine hK _ _ ?_; clear hK K)
    | (go_at_call 24; first
       | (refine (mac_tag (s := sp0) (m := mA) (hw.front 1 rfl) (fun w' hs => Rd_blk hs 0 rfl (n := 1) (Nat.le_refl _) (ybs mA) rfl rfl) (by decide +kernel) (by decide +kernel) (by decide +kernel) (by decide +kernel)).mono ?_; clear hw; rintro e w ⟨rfl, hw⟩; replace hw : Sat _ w (Book _ sp1 :: _) := hw)
       | (refine (mac_tag (s := sp1) (m := mB) (hw.front 1 rfl) (fun w' hs => Rd_blk hs 0 rfl (n := 1) (Nat.le_refl _) (ybs mB) rfl rfl) (by decide +kernel) (by decide +kernel) (by decide +kernel) (by decide +kernel)).mono ?_; clear hw; rintro e w ⟨rfl, hw⟩; replace hw : Sat _ w (Book _ sp2 :: _) := hw)
       | (refine (mac_tag (s := sp2) (m := mA) (hw.front 1 rfl) (fun w' hs => Rd_blk hs 0 rfl (n := 1) (Nat.le_refl _) (ybs mA) rfl rfl) (by decide +kernel) (by decide +kernel) (by decide +kernel) (by decide +kernel)).mono ?_; clear hw; rintro e w ⟨rfl, hw⟩; replace hw : Sat _ w (Book _ sp3 :: _) := hw))
    | (go_at_call 23; rw [show Value.int .u64 2 = U (BitVec.ofNat 64 2) from U_lit 2 (by decide)]; first
       | (refine (mac_verify (s := sp3) (m := mA) (t := BitVec.ofNat 64 2) (hw.front 1 rfl) (fun w' hs => Rd_blk hs 0 rfl (n := 1) (Nat.le_refl _) (ybs mA) rfl rfl) (by decide +kernel) (by decide +kernel)).mono ?_; clear hw; rw [q4.out]; rintro e w ⟨rfl, hw⟩; replace hw : Sat _ w (Book _ sp4 :: _) := hw)
       | (refine (mac_verify (s := sp4) (m := mB) (t := BitVec.ofNat 64 2) (hw.front 1 rfl) (fun w' hs => Rd_blk hs 0 rfl (n := 1) (Nat.le_refl _) (ybs mB) rfl rfl) (by decide +kernel) (by decide +kernel)).mono ?_; clear hw; rw [q5.out]; rintro e w ⟨rfl, hw⟩))
    | (refine wl_want (by rfl) (fun K hK => ?_); refine wk_run (rn_ueql (p := sp0.tagR mA) (q := BitVec.ofNat 64 1) rfl (by exact rfl) (by exact U_lit 1 (by decide)) true q1.out) ?_; refine hK _ _ ?_; clear hK K)
    | (refine wl_want (by rfl) (fun K hK => ?_); refine wk_run (rn_ueql (p := sp1.tagR mB) (q := BitVec.ofNat 64 2) rfl (by exact rfl) (by exact U_lit 2 (by decide)) true q2.out) ?_; refine hK _ _ ?_; clear hK K)
    | (refine wl_want (by rfl) (fun K hK => ?_); refine wk_run (rn_ueql (p := sp2.tagR mA) (q := BitVec.ofNat 64 1) rfl (by exact rfl) (by exact U_lit 1 (by decide)) true q3.out) ?_; refine hK _ _ ?_; clear hK K))
  go_ret
  exact ⟨rfl, (Sat.gets hw (by repeat (first | exact Gets.nil | exact Gets.refl _ | refine Gets.get 0 rfl ?_ | refine Gets.get 1 rfl ?_ | refine Gets.get 2 rfl ?_ | refine Gets.get 3 rfl ?_ | refine Gets.get 4 rfl ?_ | refine Gets.get 5 rfl ?_ | refine Gets.get 6 rfl ?_ | refine Gets.get 7 rfl ?_ | refine Gets.get 8 rfl ?_ | refine Gets.get 9 rfl ?_ | refine Gets.drop ?_)))⟩
end
structure Cl where
  ver : Bool
  own : Bool
  v : Value
  msg : List UInt8
  tag : BitVec 64
def ccell (c : Cl) : Array Value := #[.bool c.ver, .bool c.own, c.v, U c.tag]
theorem ccell_size (c : Cl) : (ccell c).size = 4 := rfl
theorem u_calls : Try.prog.underlying 39 = some (.slice 47) := by kernel_rfl
theorem call_size : (Try.prog.info? 47).map (·.size) = some 4 := by kernel_rfl
theorem call_agg : aggSize Try.prog 47 = some 4 := by kernel_rfl
theorem call_zero : zeroOf Try.prog 47 = some (.agg #[.bool false, .bool false, .slice none 0 0, U 0#64]) := by
  have h : zeroOf Try.prog 47 = some (.agg #[.bool false, .bool false, .slice none 0 0, .int .u64 0]) := by kernel_rfl
  rw [h, show Value.int .u64 0 = U 0#64 from U_lit 0 (by decide)]
def greatB (cs : List Cl) : Bool := decide (60 < cs.length) || cs.any (fun c => decide (100 < c.msg.length))
def callK : List NK := [.k .bool, .k .bool, .sl [.int .u8], .k (.int .u64)]
theorem call_kinds : nkinds Try.prog 9 47 = some callK := by kernel_rfl
/-- Calls that can be read. -/
def Calls4 (W : World) (v : Value) (cs : List Cl) : Prop := Rd W 4 v cs.length (flat (cs.map ccell)) ∧ ∀ c ∈ cs, Rd W 1 c.v c.msg.length (ybs c.msg)
theorem Calls4.sub {W w : World} {v : Value} {cs : List Cl} (s : Sub W w) (h : Calls4 W v cs) : Calls4 w v cs := ⟨h.1.sub s, fun c hc => (h.2 c hc).sub s⟩
theorem calls_form {W : World} {v : Value} : ∀ {l : List (Array Value)}, (∀ m ∈ l, okAll W callK m.toList) → ∃ cs : List Cl, l = cs.map ccell ∧ ∀ c ∈ cs, Rd W 1 c.v c.msg.length (ybs c.msg)
  | [], _ => ⟨[], rfl, by simp⟩
  | m :: l, h => by
    obtain ⟨cs, e1, e3⟩ := calls_form (v := v) (l := l) (fun x hx => h x (by simp [hx]))
    have hm := h m (by simp)
    obtain ⟨c⟩ := m
    have hlen := okAll_len hm
    match c, hlen with
    | [a, b, v, t], _ =>
      obtain ⟨⟨ver, ha⟩, ⟨own, hb⟩, ⟨lv, h1, h2⟩, ht, _⟩ := hm
      obtain ⟨bs, hbs⟩ := bytes_form h1 h2
      obtain ⟨tag, htag⟩ := fits_U ht
      refine ⟨⟨ver, own, v, bs, tag⟩ :: cs, ?_, fun p hp => ?_⟩
      · rw [List.map_cons, ← e1, ha, hb, htag]; rfl
      · rcases List.mem_cons.1 hp with rfl | hp
        · exact hbs
        · exact e3 p hp
section
variable {E : Env} {w : World} {F : List HP}
theorem Calls4.at {W : World} {v : Value} {cs : List Cl} (h : Calls4 W v cs) {k : Nat} {c : Cl} (hc : cs[k]? = some c) : ∃ ad cap, v = .slice (some ad) cs.length cap ∧ k < cs.length ∧ (∀ j u, (ccell c).toList[j]? = some u → W.cell? ((ad.add (k * 4)).add j) = some u) ∧ Rd W 1 c.v c.msg.length (ybs c.msg) ∧ ∃ A n, c.v = .slice A c.msg.length n := by
  have hlt := (List.getElem?_eq_some_iff.1 hc).1
  obtain ⟨A, cap, hv, _⟩ := h.1.form
  subst hv
  obtain ⟨ad, rfl, hca⟩ := h.1.addr (by omega)
  have hr := h.2 c (List.mem_of_getElem? hc)
  obtain ⟨A', n, hv', _⟩ := hr.form
  exact ⟨ad, cap, rfl, hlt, cells_at (sz := 4) hca (fun x hx => by obtain ⟨q, _, rfl⟩ := List.mem_map.1 hx; rfl) (by rw [List.getElem?_map, hc]; rfl), hr, A', n, hv'⟩
theorem great_no {cs : List Cl} (h1 : ¬ 60 < cs.length) (h2 : ∀ c ∈ cs, ¬ 100 < c.msg.length) : greatB cs = false := by
  unfold greatB
  simp only [Bool.or_eq_false_iff, decide_eq_false_iff_not, List.any_eq_false, decide_eq_true_eq]
  exact ⟨h1, fun c hc => h2 c hc⟩
set_option maxRecDepth 100000 in
set_option maxHeartbeats 1000000 in
theorem law_great {v : Value} {cs : List Cl} (hw : Sat E w F) (hR : ∀ w', Sat E w' F → Calls4 w' v cs) :
    Calls Try.prog 22 #[v] w fun e w' => e = .returned (.bool (greatB cs)) ∧ Sat E w' F := by
  obtain ⟨A, cap, rfl, hcap⟩ := (hR w hw).1.form
  have HR := Kp.mk hR
  clear hR
  by_cases h60 : 60 < cs.length
  · have h60' : (60 : Int) < (cs.length : Int) := by omega
    have hg := Kp.mk (show greatB cs = true by unfold greatB; simp [h60])
    go_enter Try.func22, Try.ntmps22
    go_wp2
    go_ret
    exact ⟨by rw [hg.out]; rfl, hw⟩
  · have h60' : ¬ ((60 : Int) < (cs.length : Int)) := by omega
    go_enter Try.func22, Try.ntmps22
    go_wp2
    go_loopw [10] (fun i wr => ∃ k : Nat, k ≤ cs.length ∧ i = .int .i64 k ∧ Kp (∀ (j : Nat) (c : Cl), j < k → cs[j]? = some c → ¬ 100 < c.msg.length) ∧ Sat E wr F) (fun i _ => cs.length - (intOf i).toNat)
    case atStart => exact ⟨0, by omega, rfl, Kp.mk (fun j c hj => absurd hj (Nat.not_lt_zero _)), hw⟩
    case round =>
      clear hw
      obtain ⟨k, hk, rfl, hb, hw⟩ := hrel
      by_cases hlt : k < cs.length
      · obtain ⟨c, hc⟩ : ∃ c, cs[k]? = some c := ⟨_, List.getElem?_eq_getElem hlt⟩
        obtain ⟨ad, cap', hv, _, hca, hrc, A', n', hv'⟩ := (HR.out _ hw).at hc
        injection hv with e1 _ e2
        subst e1; subst e2
        obtain ⟨ver, own, cv, msg, tag⟩ := c
        simp only at hv'
        subst hv'
        have ca := Kp.mk hca
        have hlt' : (k : Int) < (cs.length : Int) := by omega
        have HC := Kp.mk hc
        clear hca hc hrc
        by_cases h100 : 100 < msg.length
        · have h100' : (100 : Int) < (msg.length : Int) := by omega
          have hg := Kp.mk (show greatB cs = true by
            unfold greatB
            simp only [Bool.or_eq_true, List.any_eq_true, decide_eq_true_eq]
            exact .inr ⟨_, List.mem_of_getElem? HC.out, h100⟩)
          go_wp2_with (first
            | (refine wl_index (k : Int) (HR.out _ hw).1 rfl rfl u_calls call_size (by omega) (by omega) ?_; intro ad' hA _; injection hA with hA; subst hA)
            | (refine wl_ldA (m := ccell ⟨ver, own, .slice A' msg.length n', msg, tag⟩) rfl call_agg (by rw [Int.toNat_natCast]; exact ca.out) ?_)
            | (refine wl_alloc hw call_zero ?_; clear hw; intro b4 w hw; (try simp only [List.set_cons_succ, List.set_cons_zero, List.setIfInBounds_toArray, Value.cells, List.eraseIdx_cons_succ, List.eraseIdx_cons_zero] at hw))
            | (refine wl_store_all (vs := ccell ⟨ver, own, .slice A' msg.length n', msg, tag⟩) hw rfl 0 rfl rfl (by rw [call_size]; rfl) rfl (by simp [ccell, U_one]; exact ⟨rfl, rfl, rfl⟩) ?_; clear hw; intro w hw; (try simp only [List.set_cons_succ, List.set_cons_zero, List.setIfInBounds_toArray, Value.cells, List.eraseIdx_cons_succ, List.eraseIdx_cons_zero] at hw); simp only [ccell] at hw)
            | (refine wl_load1 hw rfl 0 rfl (by decide +kernel) (by simp only [List.getElem?_toArray, List.getElem?_cons_succ, List.getElem?_cons_zero]; exact rfl) ?_))
          go_ret
          exact ⟨by rw [hg.out]; rfl, hw.tail⟩
        · have h100' : ¬ ((100 : Int) < (msg.length : Int)) := by omega
          go_wp2_with (first
            | (refine wl_index (k : Int) (HR.out _ hw).1 rfl rfl u_calls call_size (by omega) (by omega) ?_; intro ad' hA _; injection hA with hA; subst hA)
            | (refine wl_ldA (m := ccell ⟨ver, own, .slice A' msg.length n', msg, tag⟩) rfl call_agg (by rw [Int.toNat_natCast]; exact ca.out) ?_)
            | (refine wl_alloc hw call_zero ?_; clear hw; intro b4 w hw; (try simp only [List.set_cons_succ, List.set_cons_zero, List.setIfInBounds_toArray, Value.cells, List.eraseIdx_cons_succ, List.eraseIdx_cons_zero] at hw))
            | (refine wl_store_all (vs := ccell ⟨ver, own, .slice A' msg.length n', msg, tag⟩) hw rfl 0 rfl rfl (by rw [call_size]; rfl) rfl (by simp [ccell, U_one]; exact ⟨rfl, rfl, rfl⟩) ?_; clear hw; intro w hw; (try simp only [List.set_cons_succ, List.set_cons_zero, List.setIfInBounds_toArray, Value.cells, List.eraseIdx_cons_succ, List.eraseIdx_cons_zero] at hw); simp only [ccell] at hw)
            | (refine wl_load1 hw rfl 0 rfl (by decide +kernel) (by simp only [List.getElem?_toArray, List.getElem?_cons_succ, List.getElem?_cons_zero]; exact rfl) ?_))
          go_roundw
          case rel => exact ⟨k + 1, by omega, by go_num, Kp.mk (fun j c hj hc => by
            rcases Nat.lt_or_ge j k with q | q
            · exact hb.out j c q hc
            · obtain rfl : j = k := by omega
              rw [HC.out] at hc; injection hc with hc; subst hc; exact h100), hw.tail⟩
          case measure => simp [intOf]; omega
      · have hkl : k = cs.length := by omega
        subst hkl
        have hg := Kp.mk (great_no h60 (fun c hc => by
          obtain ⟨j, hj⟩ := List.getElem?_of_mem hc
          exact hb.out j c (List.getElem?_eq_some_iff.1 hj).1 hj))
        go_wp2
        go_ret
        exact ⟨by rw [hg.out]; rfl, hw⟩
end
end Go.Proofs.Ytidkfjgelcpieaa
