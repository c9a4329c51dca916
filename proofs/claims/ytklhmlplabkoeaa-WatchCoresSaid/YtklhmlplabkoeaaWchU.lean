/- watch: the faults of cores and banks. Conditions: none. -/
import Derived.Test.YtklhmlplabkoeaaEdg
import Derived.Test.YtklhmlplabkoeaaWchT
set_option linter.unusedVariables false
set_option linter.unusedSimpArgs false
namespace Go.Proofs.Ytklhmlplabkoeaa
open Go.RowKit Go.Bst Go.MapKept Go.Proofs.YtklhmlplabkoeaaW.PrintLast
/-- A core has a line of which its bank does not know. -/
def coreK (p : Pl) (bs : List Bav) (i : Nat) (ls : List Nev) : Bool := ls.any fun l => !knownF p bs l.line i
def kR (p : Pl) (bs : List Bav) : Nat → List Cov → Bool
  | _, [] => false
  | i, x :: r => coreK p bs i x.ls || kR p bs (i + 1) r
noncomputable def anyA (x : List Nev) (l : List Cov) : Bool := l.any fun y => pairA x y.ls
noncomputable def anyU (x : List Nev) (l : List Cov) : Bool := l.any fun y => pairU x y.ls
noncomputable def aR : List Cov → List Cov → Bool
  | _, [] => false
  | pre, x :: r => anyA x.ls pre || aR (pre ++ [x]) r
noncomputable def uR : List Cov → List Cov → Bool
  | _, [] => false
  | pre, x :: r => anyU x.ls pre || uR (pre ++ [x]) r
def dR (p : Pl) : List Cov → Bool
  | [] => false
  | x :: r => !crowdF p.nw [] (x.ls.map (nearP p)) || dR p r
def bR (p : Pl) : Nat → List Bav → Bool
  | _, [] => false
  | i, b :: r => !crowdF p.fw [] (b.ls.map (farP p i)) || bR p (i + 1) r
/-- All marks. -/
noncomputable def marksF (p : Pl) (cs : List Cov) (bs : List Bav) : Mk := ⟨aR [] cs, kR p bs 0 cs, uR [] cs, dR p cs || bR p 0 bs⟩
theorem coreK_nil (p : Pl) (bs : List Bav) (i : Nat) : coreK p bs i [] = false := rfl
theorem coreK_cons (p : Pl) (bs : List Bav) (i : Nat) (x : Nev) (r : List Nev) : coreK p bs i (x :: r) = (!knownF p bs x.line i || coreK p bs i r) := rfl
theorem kR_nil (p : Pl) (bs : List Bav) (i : Nat) : kR p bs i [] = false := rfl
theorem kR_cons (p : Pl) (bs : List Bav) (i : Nat) (x : Cov) (r : List Cov) : kR p bs i (x :: r) = (coreK p bs i x.ls || kR p bs (i + 1) r) := rfl
theorem anyA_nil (x : List Nev) : anyA x [] = false := by unfold anyA; rfl
theorem anyA_cons (x : List Nev) (y : Cov) (r : List Cov) : anyA x (y :: r) = (pairA x y.ls || anyA x r) := by unfold anyA; rfl
theorem anyU_nil (x : List Nev) : anyU x [] = false := by unfold anyU; rfl
theorem anyU_cons (x : List Nev) (y : Cov) (r : List Cov) : anyU x (y :: r) = (pairU x y.ls || anyU x r) := by unfold anyU; rfl
theorem aR_nil (pre : List Cov) : aR pre [] = false := by unfold aR; rfl
theorem aR_cons (pre : List Cov) (x : Cov) (r : List Cov) : aR pre (x :: r) = (anyA x.ls pre || aR (pre ++ [x]) r) := by rw [aR]
theorem uR_nil (pre : List Cov) : uR pre [] = false := by unfold uR; rfl
theorem uR_cons (pre : List Cov) (x : Cov) (r : List Cov) : uR pre (x :: r) = (anyU x.ls pre || uR (pre ++ [x]) r) := by rw [uR]
theorem dR_nil (p : Pl) : dR p [] = false := rfl
theorem dR_cons (p : Pl) (x : Cov) (r : List Cov) : dR p (x :: r) = (!crowdF p.nw [] (x.ls.map (nearP p)) || dR p r) := rfl
theorem bR_nil (p : Pl) (i : Nat) : bR p i [] = false := rfl
theorem bR_cons (p : Pl) (i : Nat) (b : Bav) (r : List Bav) : bR p i (b :: r) = (!crowdF p.fw [] (b.ls.map (farP p i)) || bR p (i + 1) r) := rfl
theorem take_get {α : Type} {l : List α} {j : Nat} {x : α} (h : l[j]? = some x) : l.take j ++ [x] = l.take (j + 1) := by rw [List.take_add_one, h]; rfl
section
variable {P : Program} {w : World} {o : Oper} {a : Act}
theorem rn_sliceUp {t el : TypeId} {x : Operand} {hi : Operand} {b q n cap sz j : Nat} (ho : o.op = .slice t x none (some hi) none) (hx : a.eval x = .slice (some ⟨b, q, none⟩) n cap) (hu : P.underlying t = some (.slice el)) (hs : (P.info? el).map (·.size) = some sz) (hh : a.eval hi = .int .i64 (j : Nat)) (h : j ≤ cap) :
    (execOp a.eval o).run P w = .ok (.value (.slice (some ⟨b, q, none⟩) j cap)) w := by
  rw [rn_slice (l := 0) (h := j) ho hx hu hs (.inl ⟨rfl, rfl⟩) (.inr (by simp [hh])) (by omega) h]
  simp [Addr.add]
end
/-- Lines of which each address fits. -/
def NearsIn (x : Cov) : Prop := ∀ l ∈ x.ls, i64B l.line
def FarsIn (b : Bav) : Prop := ∀ l ∈ b.ls, i64B l.line
section
variable {E : Env} {w : World} {F : List HP} {p : Pl}
attribute [local irreducible] andI hasF knowsB knownF crowdF pairA pairU coreK kR anyA anyU aR uR dR bR nearP farP lineB Mk.cs wpList Calls Code.wp Code.wpN Oper.wp Go.Proofs.YtklhmlplabkoeaaW.PrintLast.wpAnyLast
set_option maxRecDepth 100000 in
set_option maxHeartbeats 8000000 in
theorem wch_cores {fb : Nat} {m0 : Mk} {cs : List Cov} {bs : List Bav} {A B : Option Addr} {cap capB : Nat} (hm0 : m0 = ⟨false, false, false, false⟩) (hrt : rightB p = true) (hw : Sat E w (pt fb (.cells m0.cs 73 (0, 0)) :: F))
    (hn : cs.length ≤ 1000) (hr : ∀ w', Sat E w' F → Rd w' 42 (.slice A cs.length cap) cs.length (flat (cs.map Cov.cs))) (hc : ∀ x ∈ cs, NearsRd E F x ∧ NearsIn x)
    (hnb : bs.length ≤ 1000) (hrb : ∀ w', Sat E w' F → Rd w' 44 (.slice B bs.length capB) bs.length (flat (bs.map Bav.cs))) (hf : FarsRd E F bs) (hfi : ∀ b ∈ bs, FarsIn b) :
    Calls Try.prog 18 #[.pointer (some ⟨fb, 0, none⟩), .agg p.cs, .slice A cs.length cap, .slice B bs.length capB] w fun e w' => e = .returned (.tuple #[]) ∧ Sat E w' (pt fb (.cells (marksF p cs bs).cs 73 (0, 0)) :: F) := by
  subst hm0
  have HR := Kp.mk hr
  have HB := Kp.mk hrb
  have HC := Kp.mk hc
  have HF := Kp.mk hf
  have HFI := Kp.mk hfi
  have hcap : cs.length ≤ cap := by
    obtain ⟨_, _, e, h, _⟩ := hr w (by first | exact hw | exact hw.tail | exact hw.tail.tail | exact hw.tail.tail.tail | exact hw.tail.tail.tail.tail | exact hw.tail.tail.tail.tail.tail | exact hw.tail.tail.tail.tail.tail.tail)
    injection e with _ _ e; subst e; exact h
  clear hr hrb hc hf hfi
  obtain ⟨M, hM⟩ : ∃ M, Kp (cs.length = M) := ⟨_, Kp.mk rfl⟩
  rw [hM.out] at hn hcap ⊢
  go_enter Try.func18, Try.ntmps18
  go_wp2_with (first | (refine wl_box (d := some 5) hw _ (by simp only [Act.eval, Act.put, List.setIfInBounds_toArray, List.set_cons_succ, List.set_cons_zero, gd_s, gd_0, Value.cells]; exact rfl) ?_; clear hw; intro b5 w hw; (try simp only [List.set_cons_succ, List.set_cons_zero, List.setIfInBounds_toArray, Value.cells, List.eraseIdx_cons_succ, List.eraseIdx_cons_zero] at hw)))
  go_loopw [18] (fun i wr => ∃ (j : Nat) (m : Mk), j ≤ M ∧ i = .int .i64 j ∧ Kp ((m.a || aR (cs.take j) (cs.drop j)) = aR [] cs) ∧ Kp ((m.k || kR p bs j (cs.drop j)) = kR p bs 0 cs) ∧ Kp ((m.u || uR (cs.take j) (cs.drop j)) = uR [] cs) ∧ Kp ((m.d || dR p (cs.drop j)) = dR p cs) ∧ Sat E wr (pt b5 (.cells p.cs 28 (0, 0)) :: pt fb (.cells m.cs 73 (0, 0)) :: F)) (fun i _ => M - (intOf i).toNat)
  case atStart => exact ⟨0, ⟨false, false, false, false⟩, by omega, rfl, Kp.mk rfl, Kp.mk rfl, Kp.mk rfl, Kp.mk rfl, hw⟩
  case round =>
    clear hw
    obtain ⟨j, m, hj, rfl, hA, hK, hU, hD, hw⟩ := hrel
    by_cases hlt : j < M
    · obtain ⟨x, hx⟩ : ∃ x, cs[j]? = some x := ⟨_, List.getElem?_eq_getElem (by rw [hM.out]; exact hlt)⟩
      obtain ⟨ga, qa, hAA, hcell⟩ := rd_el (f := Cov.cs) Cov.size (by decide) HR.out (by first | exact hw | exact hw.tail | exact hw.tail.tail | exact hw.tail.tail.tail | exact hw.tail.tail.tail.tail | exact hw.tail.tail.tail.tail.tail | exact hw.tail.tail.tail.tail.tail.tail) hx
      subst hAA
      have HX := Kp.mk hcell
      have hnr := (HC.out x (List.mem_of_getElem? hx)).1
      have hnr2 := Kp.mk hnr
      have hni := Kp.mk (HC.out x (List.mem_of_getElem? hx)).2
      have hA := hA.out
      have hK := hK.out
      have hU := hU.out
      have hD := hD.out
      rw [drop_get hx, aR_cons, take_get hx] at hA
      rw [drop_get hx, kR_cons] at hK
      rw [drop_get hx, uR_cons, take_get hx] at hU
      rw [drop_get hx, dR_cons] at hD
      have HA := Kp.mk hA
      have HK := Kp.mk hK
      have HU := Kp.mk hU
      have HD := Kp.mk hD
      clear hA hK hU hD hcell hx
      obtain ⟨L, hL⟩ : ∃ L, Kp (x.ls.length = L) := ⟨_, Kp.mk rfl⟩
      obtain ⟨A1, hA1⟩ : ∃ A1, Kp (x.A = A1) := ⟨_, Kp.mk rfl⟩
      obtain ⟨hl1000, hlr⟩ := hnr
      have ca := Kp.mk (show x.cs[6]? = some (.slice A1 L x.cap) by rw [x.c6, hL.out, hA1.out])
      have HLR := Kp.mk hlr
      rw [hA1.out] at HLR
      rw [hL.out] at hl1000
      clear hlr
      obtain ⟨ma, mk, mu, md⟩ := m
      dsimp only at HA HK HU HD hw
      go_wp2_with (first
        | (refine wl_run (d := some 21) (rn_rdIdx rfl rfl rfl u_cores cov_info hlt) ?_)
        | (refine wl_run (d := some 22) (rn_rdLdA (m := x.cs) rfl rfl (by rw [cov_agg, Cov.size]) (HX.out _ (by first | exact hw | exact hw.tail | exact hw.tail.tail | exact hw.tail.tail.tail | exact hw.tail.tail.tail.tail | exact hw.tail.tail.tail.tail.tail | exact hw.tail.tail.tail.tail.tail.tail))) ?_)
        | (refine wb_load1 (d := some 24) rfl (hw.read 0 rfl) (by decide +kernel) ca.out ?_)
        | (refine wl_run (d := some 19) (rn_clss rfl (by exact rfl) (by exact rfl) true (decide_eq_true (by omega))) ?_) | (refine wl_run (d := some 19) (rn_clss rfl (by exact rfl) (by exact rfl) false (decide_eq_false (by omega))) ?_) | (refine wl_alloc (d := some 9) hw cov_zero ?_; clear hw; intro b9 w hw; (try simp only [List.set_cons_succ, List.set_cons_zero, List.setIfInBounds_toArray, Value.cells, List.eraseIdx_cons_succ, List.eraseIdx_cons_zero] at hw)) | (refine wb_storeA (x := Operand.tmp 9) hw rfl rfl (by first | exact Upd.mk 0 rfl | exact Upd.mk 1 rfl | exact Upd.mk 2 rfl | exact Upd.mk 3 rfl | exact Upd.mk 4 rfl | exact Upd.mk 5 rfl | exact Upd.mk 6 rfl | exact Upd.mk 7 rfl | exact Upd.mk 8 rfl) (by rw [cov_info, Cov.size]) (by rw [Cov.size, Cov.size]) (by exact Cov.one _) ?_; clear hw; intro w hw; (try simp only [List.set_cons_succ, List.set_cons_zero, List.setIfInBounds_toArray, Value.cells, List.eraseIdx_cons_succ, List.eraseIdx_cons_zero] at hw)) | (refine wb_load1 (d := some 24)  rfl (by first | exact hw.read 0 rfl | exact hw.read 1 rfl | exact hw.read 2 rfl | exact hw.read 3 rfl | exact hw.read 4 rfl) (by decide +kernel) (by exact Cov.c6 _) ?_))
      go_loopw [26] (fun i wr => ∃ (k : Nat) (mk2 : Bool), k ≤ L ∧ i = .int .i64 k ∧ Kp ((mk2 || coreK p bs j (x.ls.drop k)) = (mk || coreK p bs j x.ls)) ∧ Sat E wr (pt b9 (.cells x.cs 40 (0, 0)) :: pt b5 (.cells p.cs 28 (0, 0)) :: pt fb (.cells (Mk.mk ma mk2 mu md).cs 73 (0, 0)) :: F)) (fun i _ => L - (intOf i).toNat)
      case atStart => exact ⟨0, mk, by omega, rfl, Kp.mk rfl, hw⟩
      case round =>
        clear hw
        obtain ⟨k, mk2, hk, rfl, hk2, hw⟩ := hrel
        by_cases hlt2 : k < L
        · obtain ⟨y, hy⟩ : ∃ y, x.ls[k]? = some y := ⟨_, List.getElem?_eq_getElem (by rw [hL.out]; exact hlt2)⟩
          obtain ⟨gb, qb, hBB, hcell⟩ := rd_el (f := Nev.cs) Nev.size (by decide) HLR.out (by first | exact hw | exact hw.tail | exact hw.tail.tail | exact hw.tail.tail.tail | exact hw.tail.tail.tail.tail | exact hw.tail.tail.tail.tail.tail | exact hw.tail.tail.tail.tail.tail.tail) hy
          subst hBB
          have HY := Kp.mk hcell
          have hk2 := hk2.out
          rw [drop_get hy, coreK_cons, ← Bool.or_assoc] at hk2
          have HK2 := Kp.mk hk2
          clear hcell hy hk2
          go_wp2_with (first
            | (refine wl_run (d := some 28) (rn_rdIdx rfl rfl rfl u_nears nev_info hlt2) ?_)
            | (refine wl_run (d := some 29) (rn_rdLdA (m := y.cs) rfl rfl (by rw [nev_agg, Nev.size]) (HY.out _ (by first | exact hw | exact hw.tail | exact hw.tail.tail | exact hw.tail.tail.tail | exact hw.tail.tail.tail.tail | exact hw.tail.tail.tail.tail.tail | exact hw.tail.tail.tail.tail.tail.tail))) ?_)
            | (go_at_call 42; go_must (refine (Calls.mono (wch_known (p := p) (bs := bs) (by omega) hw hnb (fun w' hs => HB.out w' (by first | exact hs | exact hs.tail | exact hs.tail.tail | exact hs.tail.tail.tail | exact hs.tail.tail.tail.tail | exact hs.tail.tail.tail.tail.tail | exact hs.tail.tail.tail.tail.tail.tail)) (fun b hb => ⟨(HF.out b hb).1, fun w' hs => (HF.out b hb).2 w' (by first | exact hs | exact hs.tail | exact hs.tail.tail | exact hs.tail.tail.tail | exact hs.tail.tail.tail.tail | exact hs.tail.tail.tail.tail.tail | exact hs.tail.tail.tail.tail.tail.tail)⟩)) ?_)); clear hw; rintro e w ⟨rfl, hw⟩; (try simp only [List.set_cons_succ, List.set_cons_zero, List.setIfInBounds_toArray, Value.cells, List.eraseIdx_cons_succ, List.eraseIdx_cons_zero] at hw))
            | (go_at_call 41; go_must (refine (Calls.mono (wch_mark2 (hw.front 3 rfl)) ?_)); clear hw; rintro e w ⟨rfl, hw⟩; (try simp only [List.set_cons_succ, List.set_cons_zero, List.setIfInBounds_toArray, Value.cells, List.eraseIdx_cons_succ, List.eraseIdx_cons_zero] at hw))
            | (refine wl_run (d := some 27) (rn_clss rfl (by exact rfl) (by exact rfl) true (decide_eq_true (by omega))) ?_) | (refine wl_run (d := some 27) (rn_clss rfl (by exact rfl) (by exact rfl) false (decide_eq_false (by omega))) ?_) | (refine wl_alloc (d := some 11) hw nev_zero ?_; clear hw; intro b11 w hw; (try simp only [List.set_cons_succ, List.set_cons_zero, List.setIfInBounds_toArray, Value.cells, List.eraseIdx_cons_succ, List.eraseIdx_cons_zero] at hw)) | (refine wb_storeA (x := Operand.tmp 11) hw rfl rfl (by first | exact Upd.mk 0 rfl | exact Upd.mk 1 rfl | exact Upd.mk 2 rfl | exact Upd.mk 3 rfl | exact Upd.mk 4 rfl | exact Upd.mk 5 rfl | exact Upd.mk 6 rfl | exact Upd.mk 7 rfl | exact Upd.mk 8 rfl) (by rw [nev_info, Nev.size]) (by rw [Nev.size, Nev.size]) (by exact Nev.one _) ?_; clear hw; intro w hw; (try simp only [List.set_cons_succ, List.set_cons_zero, List.setIfInBounds_toArray, Value.cells, List.eraseIdx_cons_succ, List.eraseIdx_cons_zero] at hw)) | (refine wb_loadA (d := some 31)  rfl (by first | exact hw.read 0 rfl | exact hw.read 1 rfl | exact hw.read 2 rfl | exact hw.read 3 rfl | exact hw.read 4 rfl) (by rw [plan_agg, Pl.size]) ?_) | (refine wb_load1 (d := some 34)  rfl (by first | exact hw.read 0 rfl | exact hw.read 1 rfl | exact hw.read 2 rfl | exact hw.read 3 rfl | exact hw.read 4 rfl) (by decide +kernel) (by exact Nev.c0 _) ?_))
          go_roundw
          case rel => exact ⟨k + 1, _, by omega, by go_num, HK2, (Sat.gets hw (by repeat (first | exact Gets.nil | exact Gets.refl _ | refine Gets.get 0 rfl ?_ | refine Gets.get 1 rfl ?_ | refine Gets.get 2 rfl ?_ | refine Gets.get 3 rfl ?_ | refine Gets.get 4 rfl ?_ | refine Gets.get 5 rfl ?_ | refine Gets.drop ?_)))⟩
          case measure => simp [intOf]; omega
        · obtain rfl : L = k := by omega
          have hk2 := hk2.out
          rw [List.drop_of_length_le (by rw [hL.out]; exact Nat.le_refl _), coreK_nil, Bool.or_false] at hk2
          have HK2 := Kp.mk hk2
          clear hk2
          go_wp2_with (first
            | (refine wl_run (d := some 42) (rn_sliceUp rfl rfl u_cores cov_info rfl (by omega)) ?_)
            | (refine wl_run (d := some 27) (rn_clss rfl (by exact rfl) (by exact rfl) true (decide_eq_true (by omega))) ?_) | (refine wl_run (d := some 27) (rn_clss rfl (by exact rfl) (by exact rfl) false (decide_eq_false (by omega))) ?_))
          go_loopw [44] (fun i wr => ∃ (k : Nat) (a2 u2 : Bool), k ≤ j ∧ i = .int .i64 k ∧ Kp ((a2 || anyA x.ls ((cs.take j).drop k)) = (ma || anyA x.ls (cs.take j))) ∧ Kp ((u2 || anyU x.ls ((cs.take j).drop k)) = (mu || anyU x.ls (cs.take j))) ∧ Sat E wr (pt b9 (.cells x.cs 40 (0, 0)) :: pt b5 (.cells p.cs 28 (0, 0)) :: pt fb (.cells (Mk.mk a2 mk2 u2 md).cs 73 (0, 0)) :: F)) (fun i _ => j - (intOf i).toNat)
          case atStart => exact ⟨0, ma, mu, by omega, rfl, Kp.mk rfl, Kp.mk rfl, hw⟩
          case round =>
            clear hw
            obtain ⟨k, a2, u2, hk, rfl, hqa, hqu, hw⟩ := hrel
            by_cases hlt3 : k < j
            · obtain ⟨y, hy⟩ : ∃ y, cs[k]? = some y := ⟨_, List.getElem?_eq_getElem (by rw [hM.out]; omega)⟩
              obtain ⟨gb, qb, hBB, hcell⟩ := rd_el (f := Cov.cs) Cov.size (by decide) HR.out (by first | exact hw | exact hw.tail | exact hw.tail.tail | exact hw.tail.tail.tail | exact hw.tail.tail.tail.tail | exact hw.tail.tail.tail.tail.tail | exact hw.tail.tail.tail.tail.tail.tail) hy
              obtain ⟨rfl, rfl⟩ : ga = gb ∧ qa = qb := by simpa using hBB
              have HY := Kp.mk hcell
              have hyr := Kp.mk (HC.out y (List.mem_of_getElem? hy)).1
              have hy2 : (cs.take j)[k]? = some y := by rw [List.getElem?_take_of_lt hlt3]; exact hy
              have hqa := hqa.out
              have hqu := hqu.out
              rw [drop_get hy2, anyA_cons, ← Bool.or_assoc] at hqa
              rw [drop_get hy2, anyU_cons, ← Bool.or_assoc] at hqu
              have HQA := Kp.mk hqa
              have HQU := Kp.mk hqu
              clear hcell hy hy2 hqa hqu hBB
              go_wp2_with (first
                | (refine wl_run (d := some 46) (rn_rdIdx rfl rfl rfl u_cores cov_info hlt3) ?_)
                | (refine wl_run (d := some 47) (rn_rdLdA (m := y.cs) rfl rfl (by rw [cov_agg, Cov.size]) (HY.out _ (by first | exact hw | exact hw.tail | exact hw.tail.tail | exact hw.tail.tail.tail | exact hw.tail.tail.tail.tail | exact hw.tail.tail.tail.tail.tail | exact hw.tail.tail.tail.tail.tail.tail))) ?_)
                | (go_at_call 43; go_must (refine (Calls.mono (wch_pairs (a := x) (b := y) (hw.front 3 rfl) ⟨hnr2.out.1, fun w' hs => hnr2.out.2 w' (by first | exact hs | exact hs.tail | exact hs.tail.tail | exact hs.tail.tail.tail | exact hs.tail.tail.tail.tail | exact hs.tail.tail.tail.tail.tail | exact hs.tail.tail.tail.tail.tail.tail)⟩ ⟨hyr.out.1, fun w' hs => hyr.out.2 w' (by first | exact hs | exact hs.tail | exact hs.tail.tail | exact hs.tail.tail.tail | exact hs.tail.tail.tail.tail | exact hs.tail.tail.tail.tail.tail | exact hs.tail.tail.tail.tail.tail.tail)⟩) ?_)); clear hw; rintro e w ⟨rfl, hw⟩; (try simp only [List.set_cons_succ, List.set_cons_zero, List.setIfInBounds_toArray, Value.cells, List.eraseIdx_cons_succ, List.eraseIdx_cons_zero] at hw))
                | (refine wl_run (d := some 45) (rn_clss rfl (by exact rfl) (by exact rfl) true (decide_eq_true (by omega))) ?_) | (refine wl_run (d := some 45) (rn_clss rfl (by exact rfl) (by exact rfl) false (decide_eq_false (by omega))) ?_) | (refine wl_alloc (d := some 13) hw cov_zero ?_; clear hw; intro b13 w hw; (try simp only [List.set_cons_succ, List.set_cons_zero, List.setIfInBounds_toArray, Value.cells, List.eraseIdx_cons_succ, List.eraseIdx_cons_zero] at hw)) | (refine wb_storeA (x := Operand.tmp 13) hw rfl rfl (by first | exact Upd.mk 0 rfl | exact Upd.mk 1 rfl | exact Upd.mk 2 rfl | exact Upd.mk 3 rfl | exact Upd.mk 4 rfl | exact Upd.mk 5 rfl | exact Upd.mk 6 rfl | exact Upd.mk 7 rfl | exact Upd.mk 8 rfl) (by rw [cov_info, Cov.size]) (by rw [Cov.size, Cov.size]) (by exact Cov.one _) ?_; clear hw; intro w hw; (try simp only [List.set_cons_succ, List.set_cons_zero, List.setIfInBounds_toArray, Value.cells, List.eraseIdx_cons_succ, List.eraseIdx_cons_zero] at hw)) | (refine wb_loadA (d := some 49)  rfl (by first | exact hw.read 0 rfl | exact hw.read 1 rfl | exact hw.read 2 rfl | exact hw.read 3 rfl | exact hw.read 4 rfl) (by rw [cov_agg, Cov.size]) ?_) | (refine wb_loadA (d := some 50)  rfl (by first | exact hw.read 0 rfl | exact hw.read 1 rfl | exact hw.read 2 rfl | exact hw.read 3 rfl | exact hw.read 4 rfl) (by rw [cov_agg, Cov.size]) ?_))
              go_roundw
              case rel => exact ⟨k + 1, _, _, by omega, by go_num, HQA, HQU, (Sat.gets hw (by repeat (first | exact Gets.nil | exact Gets.refl _ | refine Gets.get 0 rfl ?_ | refine Gets.get 1 rfl ?_ | refine Gets.get 2 rfl ?_ | refine Gets.get 3 rfl ?_ | refine Gets.get 4 rfl ?_ | refine Gets.get 5 rfl ?_ | refine Gets.drop ?_)))⟩
              case measure => simp [intOf]; omega
            · obtain rfl : j = k := by omega
              have hqa := hqa.out
              have hqu := hqu.out
              have hjl : (cs.take j).length ≤ j := by rw [List.length_take]; omega
              rw [List.drop_of_length_le hjl, anyA_nil, Bool.or_false] at hqa
              rw [List.drop_of_length_le hjl, anyU_nil, Bool.or_false] at hqu
              have HA2 := HA.out
              have HU2 := HU.out
              have HK3 := HK.out
              have HD2 := HD.out
              rw [← Bool.or_assoc, ← hqa] at HA2
              rw [← Bool.or_assoc, ← hqu] at HU2
              rw [← Bool.or_assoc, ← HK2.out] at HK3
              rw [← Bool.or_assoc] at HD2
              have GA := Kp.mk HA2
              have GU := Kp.mk HU2
              have GK := Kp.mk HK3
              have GD := Kp.mk HD2
              clear hqa hqu HA2 HU2 HK3 HD2 hjl
              go_wp2_with (first
                | (refine wb_load1 (d := some 55) rfl (hw.read 0 rfl) (by decide +kernel) ca.out ?_)
                | (refine wl_run (d := some 59) (rn_makeFunc1 rfl rfl) ?_)
                | (go_at_call 44; go_must (refine (Calls.mono (wch_crowdN (p := p) (ls := x.ls) (bp := b5) (fun w' hs => hs.read 1 rfl) hni.out hrt hw hL.out hl1000 (fun w' hs => HLR.out w' (by first | exact hs | exact hs.tail | exact hs.tail.tail | exact hs.tail.tail.tail | exact hs.tail.tail.tail.tail | exact hs.tail.tail.tail.tail.tail | exact hs.tail.tail.tail.tail.tail.tail))) ?_)); clear hw; rintro e w ⟨rfl, hw⟩; (try simp only [List.set_cons_succ, List.set_cons_zero, List.setIfInBounds_toArray, Value.cells, List.eraseIdx_cons_succ, List.eraseIdx_cons_zero] at hw))
                | (go_at_call 41; go_must (refine (Calls.mono (wch_mark5 (hw.front 2 rfl)) ?_)); clear hw; rintro e w ⟨rfl, hw⟩; (try simp only [List.set_cons_succ, List.set_cons_zero, List.setIfInBounds_toArray, Value.cells, List.eraseIdx_cons_succ, List.eraseIdx_cons_zero] at hw))
                | (refine wl_run (d := some 45) (rn_clss rfl (by exact rfl) (by exact rfl) true (decide_eq_true (by omega))) ?_) | (refine wl_run (d := some 45) (rn_clss rfl (by exact rfl) (by exact rfl) false (decide_eq_false (by omega))) ?_) | (refine wb_load1 (d := some 55)  rfl (by first | exact hw.read 0 rfl | exact hw.read 1 rfl | exact hw.read 2 rfl | exact hw.read 3 rfl | exact hw.read 4 rfl) (by decide +kernel) (by exact Cov.c6 _) ?_) | (refine wb_load1 (d := some 58)  rfl (by first | exact hw.read 0 rfl | exact hw.read 1 rfl | exact hw.read 2 rfl | exact hw.read 3 rfl | exact hw.read 4 rfl) (by decide +kernel) (by exact Pl.c8 _) ?_) | (refine wl_run (d := some 63) (rn_cadd rfl (by exact rfl) (by exact rfl) _ rfl (by omega)) ?_))
              go_roundw
              case rel => exact ⟨j + 1, Mk.mk _ _ _ _, by omega, by go_num, GA, GK, GU, GD, (Sat.gets hw (by repeat (first | exact Gets.nil | exact Gets.refl _ | refine Gets.get 0 rfl ?_ | refine Gets.get 1 rfl ?_ | refine Gets.get 2 rfl ?_ | refine Gets.get 3 rfl ?_ | refine Gets.get 4 rfl ?_ | refine Gets.get 5 rfl ?_ | refine Gets.drop ?_)))⟩
              case measure => simp [intOf]; omega
    · obtain rfl : M = j := by omega
      have hA := hA.out
      have hK := hK.out
      have hU := hU.out
      have hD := hD.out
      have hdr : cs.drop M = [] := List.drop_of_length_le (by rw [hM.out]; exact Nat.le_refl _)
      rw [hdr, aR_nil, Bool.or_false] at hA
      rw [hdr, kR_nil, Bool.or_false] at hK
      rw [hdr, uR_nil, Bool.or_false] at hU
      rw [hdr, dR_nil, Bool.or_false] at hD
      obtain ⟨ma, mk, mu, md⟩ := m
      dsimp only at hA hK hU hD hw
      have GA := Kp.mk hA
      have GK := Kp.mk hK
      have GU := Kp.mk hU
      have GD := Kp.mk hD
      clear hA hK hU hD hdr
      go_wp2_with (first | (refine wl_run (d := some 19) (rn_clss rfl (by exact rfl) (by exact rfl) true (decide_eq_true (by omega))) ?_) | (refine wl_run (d := some 19) (rn_clss rfl (by exact rfl) (by exact rfl) false (decide_eq_false (by omega))) ?_))
      go_loopw [66] (fun i wr => ∃ (k : Nat) (d2 : Bool), k ≤ bs.length ∧ i = .int .i64 k ∧ Kp ((d2 || bR p k (bs.drop k)) = (md || bR p 0 bs)) ∧ Sat E wr (pt b5 (.cells p.cs 28 (0, 0)) :: pt fb (.cells (Mk.mk ma mk mu d2).cs 73 (0, 0)) :: F)) (fun i _ => bs.length - (intOf i).toNat)
      case atStart => exact ⟨0, md, by omega, rfl, Kp.mk rfl, hw⟩
      case round =>
        clear hw
        obtain ⟨k, d2, hk, rfl, hqb, hw⟩ := hrel
        by_cases hlt3 : k < bs.length
        · obtain ⟨y, hy⟩ : ∃ y, bs[k]? = some y := ⟨_, List.getElem?_eq_getElem hlt3⟩
          obtain ⟨gb, qb, hBB, hcell⟩ := rd_el (f := Bav.cs) Bav.size (by decide) HB.out (by first | exact hw | exact hw.tail | exact hw.tail.tail | exact hw.tail.tail.tail | exact hw.tail.tail.tail.tail | exact hw.tail.tail.tail.tail.tail | exact hw.tail.tail.tail.tail.tail.tail) hy
          subst hBB
          have HY := Kp.mk hcell
          obtain ⟨hl1000, hlr⟩ := HF.out y (List.mem_of_getElem? hy)
          have hfi := Kp.mk (HFI.out y (List.mem_of_getElem? hy))
          obtain ⟨L, hL⟩ : ∃ L, Kp (y.ls.length = L) := ⟨_, Kp.mk rfl⟩
          obtain ⟨A1, hA1⟩ : ∃ A1, Kp (y.A = A1) := ⟨_, Kp.mk rfl⟩
          have ca := Kp.mk (show y.cs[43]? = some (.slice A1 L y.cap) by rw [y.c43, hL.out, hA1.out])
          have HLR := Kp.mk hlr
          rw [hA1.out] at HLR
          rw [hL.out] at hl1000
          have hqb := hqb.out
          rw [drop_get hy, bR_cons, ← Bool.or_assoc] at hqb
          have HQB := Kp.mk hqb
          clear hlr hcell hy hqb
          go_wp2_with (first
            | (refine wl_run (d := some 69) (rn_rdIdx rfl rfl rfl u_banks bav_info hlt3) ?_)
            | (refine wl_run (d := some 70) (rn_rdLdA (m := y.cs) rfl rfl (by rw [bav_agg, Bav.size]) (HY.out _ (by first | exact hw | exact hw.tail | exact hw.tail.tail | exact hw.tail.tail.tail | exact hw.tail.tail.tail.tail | exact hw.tail.tail.tail.tail.tail | exact hw.tail.tail.tail.tail.tail.tail))) ?_)
            | (refine wl_store1 hw rfl 1 rfl (.int .i64 (k : Nat)) rfl (by decide +kernel) (by simp) rfl ?_; clear hw; intro w hw; (try simp only [List.set_cons_succ, List.set_cons_zero, List.setIfInBounds_toArray, Value.cells, List.eraseIdx_cons_succ, List.eraseIdx_cons_zero] at hw))
            | (refine wb_load1 (d := some 73) rfl (hw.read 0 rfl) (by decide +kernel) ca.out ?_)
            | (refine wl_run (d := some 77) (rn_makeFunc2 rfl rfl rfl) ?_)
            | (go_at_call 46; go_must (refine (Calls.mono (wch_crowdF (p := p) (ls := y.ls) (bp := b5) (bi := b14) (i0 := (k : Int)) (fun w' hs => hs.read 2 rfl) (fun w' hs => hs.read 1 rfl) hfi.out hrt hw hL.out hl1000 (fun w' hs => HLR.out w' (by first | exact hs | exact hs.tail | exact hs.tail.tail | exact hs.tail.tail.tail | exact hs.tail.tail.tail.tail | exact hs.tail.tail.tail.tail.tail | exact hs.tail.tail.tail.tail.tail.tail))) ?_)); clear hw; rintro e w ⟨rfl, hw⟩; (try simp only [List.set_cons_succ, List.set_cons_zero, List.setIfInBounds_toArray, Value.cells, List.eraseIdx_cons_succ, List.eraseIdx_cons_zero] at hw))
            | (go_at_call 41; go_must (refine (Calls.mono (wch_mark5 (hw.front 3 rfl)) ?_)); clear hw; rintro e w ⟨rfl, hw⟩; (try simp only [List.set_cons_succ, List.set_cons_zero, List.setIfInBounds_toArray, Value.cells, List.eraseIdx_cons_succ, List.eraseIdx_cons_zero] at hw))
            | (refine wl_run (d := some 67) (rn_clss rfl (by exact rfl) (by exact rfl) true (decide_eq_true (by omega))) ?_) | (refine wl_run (d := some 67) (rn_clss rfl (by exact rfl) (by exact rfl) false (decide_eq_false (by omega))) ?_) | (refine wl_alloc (d := some 14) (z := .int .i64 0) hw (by kernel_rfl) ?_; clear hw; intro b14 w hw; (try simp only [List.set_cons_succ, List.set_cons_zero, List.setIfInBounds_toArray, Value.cells, List.eraseIdx_cons_succ, List.eraseIdx_cons_zero] at hw)) | (refine wl_alloc (d := some 15) hw bav_zero ?_; clear hw; intro b15 w hw; (try simp only [List.set_cons_succ, List.set_cons_zero, List.setIfInBounds_toArray, Value.cells, List.eraseIdx_cons_succ, List.eraseIdx_cons_zero] at hw)) | (refine wb_store1 (x := Operand.tmp 14) hw rfl (by first | exact Upd.mk 0 rfl | exact Upd.mk 1 rfl | exact Upd.mk 2 rfl | exact Upd.mk 3 rfl | exact Upd.mk 4 rfl | exact Upd.mk 5 rfl | exact Upd.mk 6 rfl | exact Upd.mk 7 rfl | exact Upd.mk 8 rfl) _ (by simp only [Act.eval, Act.put, List.setIfInBounds_toArray, List.set_cons_succ, List.set_cons_zero, gd_s, gd_0, Value.cells]; exact rfl) (by decide +kernel) (by simp) rfl (by simp only [List.setIfInBounds_toArray, List.set_cons_succ, List.set_cons_zero]) ?_; clear hw; intro w hw; (try simp only [List.set_cons_succ, List.set_cons_zero, List.setIfInBounds_toArray, Value.cells, List.eraseIdx_cons_succ, List.eraseIdx_cons_zero] at hw)) | (refine wb_storeA (x := Operand.tmp 15) hw rfl rfl (by first | exact Upd.mk 0 rfl | exact Upd.mk 1 rfl | exact Upd.mk 2 rfl | exact Upd.mk 3 rfl | exact Upd.mk 4 rfl | exact Upd.mk 5 rfl | exact Upd.mk 6 rfl | exact Upd.mk 7 rfl | exact Upd.mk 8 rfl) (by rw [bav_info, Bav.size]) (by rw [Bav.size, Bav.size]) (by exact Bav.one _) ?_; clear hw; intro w hw; (try simp only [List.set_cons_succ, List.set_cons_zero, List.setIfInBounds_toArray, Value.cells, List.eraseIdx_cons_succ, List.eraseIdx_cons_zero] at hw)) | (refine wb_load1 (d := some 73)  rfl (by first | exact hw.read 0 rfl | exact hw.read 1 rfl | exact hw.read 2 rfl | exact hw.read 3 rfl | exact hw.read 4 rfl) (by decide +kernel) (by exact Bav.c43 _) ?_) | (refine wb_load1 (d := some 76)  rfl (by first | exact hw.read 0 rfl | exact hw.read 1 rfl | exact hw.read 2 rfl | exact hw.read 3 rfl | exact hw.read 4 rfl) (by decide +kernel) (by exact Pl.c10 _) ?_) | (refine wl_run (d := some 81) (rn_cadd rfl (by exact rfl) (by exact rfl) _ rfl (by omega)) ?_))
          go_roundw
          case rel => exact ⟨k + 1, _, by omega, by go_num, HQB, (Sat.gets hw (by repeat (first | exact Gets.nil | exact Gets.refl _ | refine Gets.get 0 rfl ?_ | refine Gets.get 1 rfl ?_ | refine Gets.get 2 rfl ?_ | refine Gets.get 3 rfl ?_ | refine Gets.get 4 rfl ?_ | refine Gets.get 5 rfl ?_ | refine Gets.drop ?_)))⟩
          case measure => simp [intOf]; omega
        · obtain rfl : bs.length = k := by omega
          have hqb := hqb.out
          rw [List.drop_of_length_le (Nat.le_refl _), bR_nil, Bool.or_false] at hqb
          have GB := Kp.mk hqb
          clear hqb
          go_wp2_with (first | (refine wl_run (d := some 67) (rn_clss rfl (by exact rfl) (by exact rfl) true (decide_eq_true (by omega))) ?_) | (refine wl_run (d := some 67) (rn_clss rfl (by exact rfl) (by exact rfl) false (decide_eq_false (by omega))) ?_))
          go_end0
          have em := Kp.mk (show marksF p cs bs = Mk.mk ma mk mu d2 by unfold marksF; rw [← GA.out, ← GK.out, ← GU.out, ← GD.out, GB.out])
          rw [em.out]
          exact ⟨rfl, (Sat.gets hw (by repeat (first | exact Gets.nil | exact Gets.refl _ | refine Gets.get 0 rfl ?_ | refine Gets.get 1 rfl ?_ | refine Gets.get 2 rfl ?_ | refine Gets.get 3 rfl ?_ | refine Gets.get 4 rfl ?_ | refine Gets.get 5 rfl ?_ | refine Gets.drop ?_)))⟩
end
end Go.Proofs.Ytklhmlplabkoeaa
