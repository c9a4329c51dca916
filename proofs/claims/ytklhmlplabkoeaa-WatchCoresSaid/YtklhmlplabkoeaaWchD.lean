/- The law WatchCores: the faults of any cores and banks. Conditions: none. -/
import Derived.Test.YtklhmlplabkoeaaEdg
import Derived.Test.YtklhmlplabkoeaaWchC
import Derived.Test.YtklhmlplabkoeaaPrtL
import Derived.Test.YtklhmlplabkoeaaPlF
set_option linter.unusedVariables false
set_option linter.unusedSimpArgs false
namespace Go.Proofs.Ytklhmlplabkoeaa
open Go.RowKit Go.Bst Go.MapKept Go.Proofs.YtklhmlplabkoeaaW.PrintLast
theorem i64_0 : i64B 0 := by unfold i64B; decide
def Pl.two : Pl := { Pl.zero with cores := 2 }
theorem two_build : buildC Try.prog 28 [(0, #[.int .i64 2])] = some Pl.two.cs := by unfold Pl.two; rw [← Pl.s0, Pl.zero_cs]; kernel_rfl
theorem Pl.two_ok : Pl.two.Ok := by
  have z := i64_0
  exact ⟨by unfold i64B; decide, z, z, z, z, z, by decide, z, z, z, z, z, z, z⟩
def n3 : Nev := ⟨0, 3, .zero⟩
def n1 : Nev := ⟨0, 1, .zero⟩
theorem row_gw {E : Env} {w : World} {H : List HP} {e : TypeId} {sz n c : Nat} {A : Option Addr} {xs : List Value} (s : Sat E w H) (k : Nat) (hk : H[k]? = some (Row e sz (.slice A n c) n xs)) (h : 0 < n) : ∃ gb, A = some ⟨gb, 0, none⟩ := by
  obtain ⟨B, cap, e, _, h2⟩ := Row_val s k hk
  injection e with e1 e2 e3
  subst e1
  exact h2 h
theorem ex_marks {p : Pl} (h : rightB p = true) (A1 A2 : Option Addr) : marksF p [Cov.of A1 [n3] 1, Cov.of A2 [n1] 1] [] = ⟨true, true, false, false⟩ := by
  have h6 := right_six h
  have hl : lineB p 0 = true := by
    have := allI_in h
    unfold lineB
    rw [h, decide_eq_true (by omega), decide_eq_true (by omega)]; rfl
  have hs : sharedB n1 n3 = false := by unfold sharedB n1 n3; rfl
  have hk : ∀ c : Int, knownF p [] 0 c = false := fun c => by unfold knownF; simp
  have hc : ∀ x : Nev, x.line = 0 → crowdF p.nw [] [nearP p x] = true := fun x hx => by
    have : nearP p x = (Int.tmod 0 p.ns, 0, true) := by unfold nearP; rw [hx, hl]
    rw [this]
    unfold crowdF
    rw [if_pos ⟨rfl, by simp; omega, by simp⟩]
    unfold crowdF; rfl
  have e1 : aR [] [Cov.of A1 [n3] 1, Cov.of A2 [n1] 1] = true := by
    rw [aR_cons, aR_cons, anyA_nil, List.nil_append, anyA_cons]
    have : pairA (Cov.of A2 [n1] 1).ls (Cov.of A1 [n3] 1).ls = true := by
      show pairA [n1] [n3] = true
      rw [pairA_cons, rowA_cons, hs]; rfl
    rw [this]; rfl
  have e2 : kR p [] 0 [Cov.of A1 [n3] 1, Cov.of A2 [n1] 1] = true := by
    rw [kR_cons]
    have : coreK p [] 0 (Cov.of A1 [n3] 1).ls = true := by
      show coreK p [] 0 [n3] = true
      rw [coreK_cons]
      show (!knownF p [] 0 (0 : Nat) || _) = true
      rw [hk]; rfl
    rw [this]; rfl
  have e3 : uR [] [Cov.of A1 [n3] 1, Cov.of A2 [n1] 1] = false := by
    rw [uR_cons, uR_cons, anyU_nil, List.nil_append, anyU_cons, anyU_nil, uR_nil]
    have : pairU (Cov.of A2 [n1] 1).ls (Cov.of A1 [n3] 1).ls = false := by
      show pairU [n1] [n3] = false
      rw [pairU_cons, rowU_cons, hs, rowU_nil, pairU_nil]
      simp
    rw [this]; rfl
  have e4 : dR p [Cov.of A1 [n3] 1, Cov.of A2 [n1] 1] = false := by
    rw [dR_cons, dR_cons, dR_nil]
    have a1 : crowdF p.nw [] ((Cov.of A1 [n3] 1).ls.map (nearP p)) = true := hc n3 rfl
    have a2 : crowdF p.nw [] ((Cov.of A2 [n1] 1).ls.map (nearP p)) = true := hc n1 rfl
    rw [a1, a2]; rfl
  unfold marksF
  rw [e1, e2, e3, e4, bR_nil] <;> rfl
theorem ex_watch {p : Pl} (h : rightB p = true) (A1 A2 : Option Addr) : watchF p [Cov.of A1 [n3] 1, Cov.of A2 [n1] 1] [] = [1, 2] := by
  unfold watchF
  rw [h, if_pos rfl, ex_marks h]; rfl
theorem watch_no {p : Pl} {cs : List Cov} {bs : List Bav} (h : rightB p = false) : watchF p cs bs = [] := by unfold watchF; rw [h]; rfl
theorem ex_in (A : Option Addr) (x : Nev) (h : i64B x.line) : NearsIn (Cov.of A [x] 1) := fun l hl => by
  obtain rfl : l = x := by simpa [Cov.of] using hl
  exact h
theorem litCores (A1 A2 : Option Addr) : litC Try.prog 40 42 2 [(0, (Cov.of A1 [n3] 1).cs), (1, (Cov.of A2 [n1] 1).cs)] = some ((Cov.of A1 [n3] 1).cs ++ (Cov.of A2 [n1] 1).cs) := by
  unfold Cov.of Cov.cs
  kernel_rfl
section
variable {E : Env} {w : World} {F : List HP} {p : Pl}
attribute [local irreducible] faultsL marksF watchF wpList Calls Code.wp Code.wpN Oper.wp Go.Proofs.YtklhmlplabkoeaaW.PrintLast.wpAnyLast
set_option maxRecDepth 100000 in
set_option maxHeartbeats 4000000 in
theorem rf_SameI {L : List Nat} {n : Nat} {A1 A2 : Option Addr} {c1 c2 : Nat} (hn : L.length = n) (hn2 : n ≤ 1000) (hw : Sat E w (RowN 3 1 (.slice A2 n c2) n fN L :: RowN 3 1 (.slice A1 n c1) n fN L :: F)) :
    Calls Try.prog 7 #[.slice A1 n c1, .slice A2 n c2] w fun e w' => e = .returned (.bool true) ∧ Sat E w' (RowN 3 1 (.slice A2 n c2) n fN L :: RowN 3 1 (.slice A1 n c1) n fN L :: F) := by
  have HN := Kp.mk hn
  clear hn
  go_enter Try.func7, Try.ntmps7
  go_wp2_with (first | (refine wl_run (d := some 10) (rn_cneq rfl (by exact rfl) (by exact rfl) true (decide_eq_true (by omega))) ?_) | (refine wl_run (d := some 10) (rn_cneq rfl (by exact rfl) (by exact rfl) false (decide_eq_false (by omega))) ?_))
  go_loopw [5] (fun i wr => ∃ k : Nat, k ≤ n ∧ i = .int .i64 k ∧ Sat E wr (RowN 3 1 (.slice A2 n c2) n fN L :: RowN 3 1 (.slice A1 n c1) n fN L :: F)) (fun i _ => n - (intOf i).toNat)
  case atStart => exact ⟨0, by omega, rfl, hw⟩
  case round =>
    clear hw
    obtain ⟨k, hk, rfl, hw⟩ := hrel
    by_cases hlt : k < n
    · obtain ⟨g2, rfl⟩ := row_gw (n := n) hw 0 rfl (by omega)
      obtain ⟨g1, rfl⟩ := row_gw (n := n) hw 1 rfl (by omega)
      obtain ⟨x, hx⟩ : ∃ x, L[k]? = some x := ⟨_, List.getElem?_eq_getElem (by rw [HN.out]; exact hlt)⟩
      have hc := rowN_cells (f := fN) (sz := 1) fN_size hx
      have hc0 := Kp.mk (show (flat (L.map fN))[k]? = some (.int .i64 (x : Int)) by have := hc 0 _ rfl; rw [Nat.mul_one] at this; exact this)
      clear hx hc
      go_upto_region 6 with (first | (refine wl_run (d := some 14) (rn_clss rfl (by exact rfl) (by exact rfl) true (decide_eq_true (by omega))) ?_) | (refine wl_run (d := some 14) (rn_clss rfl (by exact rfl) (by exact rfl) false (decide_eq_false (by omega))) ?_))
      have hS0 := hw.gets (Gets.get 0 rfl (Gets.get 0 rfl Gets.nil))
      refine startS (ds := []) hS0 #[false, false, false, false, false, false, false, false, false] (by kernel_rfl) rfl (by rfl) ?_
      clear hS0; intro hS
      replace hw := hw.drew; generalize w.drew = w at hw hS ⊢
      (refine pureE (i := 0) (oi := { dst := some 17, op := Op.move (Operand.tmp 0), type := 47, pos := "ref.go:120", after := #[], guard := none }) (N := some 17) #[true, false, false, false, false, false, false, false, false] rfl rfl (by kernel_rfl) (fun _ _ _ _ h => h) ?_; apply Exists.intro; refine ⟨Or.inl ⟨by rfl, ?_⟩, ?_⟩; · (intro w0; go_simp; try with_reducible rfl))
      try simp only [Act.put, List.setIfInBounds_toArray, List.set_cons_succ, List.set_cons_zero]
      (refine pureE (i := 1) (oi := { dst := some 18, op := Op.move (Operand.tmp 5), type := 3, pos := "ref.go:120", after := #[], guard := none }) (N := some 18) #[true, true, false, false, false, false, false, false, false] rfl rfl (by kernel_rfl) (fun _ _ _ _ h => h) ?_; apply Exists.intro; refine ⟨Or.inl ⟨by rfl, ?_⟩, ?_⟩; · (intro w0; go_simp; try with_reducible rfl))
      try simp only [Act.put, List.setIfInBounds_toArray, List.set_cons_succ, List.set_cons_zero]
      (refine pureE (i := 4) (oi := { dst := some 21, op := Op.move (Operand.tmp 1), type := 47, pos := "ref.go:120", after := #[], guard := none }) (N := some 21) #[true, true, false, false, true, false, false, false, false] rfl rfl (by kernel_rfl) (fun _ _ _ _ h => h) ?_; apply Exists.intro; refine ⟨Or.inl ⟨by rfl, ?_⟩, ?_⟩; · (intro w0; go_simp; try with_reducible rfl))
      try simp only [Act.put, List.setIfInBounds_toArray, List.set_cons_succ, List.set_cons_zero]
      (refine pureE (i := 5) (oi := { dst := some 22, op := Op.move (Operand.tmp 5), type := 3, pos := "ref.go:120", after := #[], guard := none }) (N := some 22) #[true, true, false, false, true, true, false, false, false] rfl rfl (by kernel_rfl) (fun _ _ _ _ h => h) ?_; apply Exists.intro; refine ⟨Or.inl ⟨by rfl, ?_⟩, ?_⟩; · (intro w0; go_simp; try with_reducible rfl))
      try simp only [Act.put, List.setIfInBounds_toArray, List.set_cons_succ, List.set_cons_zero]
      (refine takeE (i := 2) (oi := { dst := some 19, op := Op.indexAddr 47 (Operand.tmp 17) (Operand.tmp 18), type := 0, pos := "ref.go:120", after := #[eD 0, eD 1], guard := none }) (N := some 19) #[true, true, true, false, true, true, false, false, false] rfl rfl (by kernel_rfl) (fun _ _ _ _ h => h) hS ?_; apply Exists.intro; refine ⟨Or.inl ⟨by rfl, ?_⟩, ?_⟩; · (intro w0 h; first | (exact rn_rowIdx rfl h 0 rfl rfl k k (Nat.mul_one _) rfl (by kernel_rfl) (by kernel_rfl) hlt) | (exact rn_rowIdx rfl h 1 rfl rfl k k (Nat.mul_one _) rfl (by kernel_rfl) (by kernel_rfl) hlt) | (go_simp; with_reducible rfl)))
      try simp only [Act.put, List.setIfInBounds_toArray, List.set_cons_succ, List.set_cons_zero]
      (refine takeE (i := 3) (oi := { dst := some 20, op := Op.load 3 (Operand.tmp 19), type := 3, pos := "ref.go:120", after := #[eD 2], guard := none }) (N := some 20) #[true, true, true, true, true, true, false, false, false] rfl rfl (by kernel_rfl) (fun _ _ _ _ h => h) hS ?_; apply Exists.intro; refine ⟨Or.inl ⟨by rfl, ?_⟩, ?_⟩; · (intro w0 h; first | (exact rn_rowLd1 rfl h 0 rfl rfl (by decide +kernel) _ hc0.out) | (exact rn_rowLd1 rfl h 1 rfl rfl (by decide +kernel) _ hc0.out) | (go_simp; with_reducible rfl)))
      try simp only [Act.put, List.setIfInBounds_toArray, List.set_cons_succ, List.set_cons_zero]
      (refine takeE (i := 6) (oi := { dst := some 23, op := Op.indexAddr 47 (Operand.tmp 21) (Operand.tmp 22), type := 0, pos := "ref.go:120", after := #[eD 4, eD 5], guard := none }) (N := some 23) #[true, true, true, true, true, true, true, false, false] rfl rfl (by kernel_rfl) (fun _ _ _ _ h => h) hS ?_; apply Exists.intro; refine ⟨Or.inl ⟨by rfl, ?_⟩, ?_⟩; · (intro w0 h; first | (exact rn_rowIdx rfl h 0 rfl rfl k k (Nat.mul_one _) rfl (by kernel_rfl) (by kernel_rfl) hlt) | (exact rn_rowIdx rfl h 1 rfl rfl k k (Nat.mul_one _) rfl (by kernel_rfl) (by kernel_rfl) hlt) | (go_simp; with_reducible rfl)))
      try simp only [Act.put, List.setIfInBounds_toArray, List.set_cons_succ, List.set_cons_zero]
      (refine takeE (i := 7) (oi := { dst := some 24, op := Op.load 3 (Operand.tmp 23), type := 3, pos := "ref.go:120", after := #[eD 6], guard := none }) (N := some 24) #[true, true, true, true, true, true, true, true, false] rfl rfl (by kernel_rfl) (fun _ _ _ _ h => h) hS ?_; apply Exists.intro; refine ⟨Or.inl ⟨by rfl, ?_⟩, ?_⟩; · (intro w0 h; first | (exact rn_rowLd1 rfl h 0 rfl rfl (by decide +kernel) _ hc0.out) | (exact rn_rowLd1 rfl h 1 rfl rfl (by decide +kernel) _ hc0.out) | (go_simp; with_reducible rfl)))
      try simp only [Act.put, List.setIfInBounds_toArray, List.set_cons_succ, List.set_cons_zero]
      (refine pureE (i := 8) (oi := { dst := some 25, op := Op.binOp BinOp.neq 3 (Operand.tmp 20) (Operand.tmp 24) 3, type := 4, pos := "ref.go:120", after := #[eD 3, eD 7], guard := none }) (N := some 25) #[true, true, true, true, true, true, true, true, true] rfl rfl (by kernel_rfl) (fun _ _ _ _ h => h) ?_; apply Exists.intro; refine ⟨Or.inl ⟨by rfl, ?_⟩, ?_⟩; · (intro w0; first | (exact (rn_cneq rfl (by exact rfl) (by exact rfl) true (decide_eq_true (by omega)))) | (exact (rn_cneq rfl (by exact rfl) (by exact rfl) false (decide_eq_false (by omega)))) | (go_simp; try with_reducible rfl)))
      try simp only [Act.put, List.setIfInBounds_toArray, List.set_cons_succ, List.set_cons_zero]
      refine done_ (by kernel_rfl) ?_; clear hS
      go_wp2_with (first | (refine wl_run (d := some 16) (rn_cadd rfl (by exact rfl) (by exact rfl) _ rfl (by omega)) ?_))
      go_roundw
      case rel => exact ⟨k + 1, by omega, by go_num, hw⟩
      case measure => simp [intOf]; omega
    · obtain rfl : n = k := by omega
      go_wp2_with (first | (refine wl_run (d := some 14) (rn_clss rfl (by exact rfl) (by exact rfl) true (decide_eq_true (by omega))) ?_) | (refine wl_run (d := some 14) (rn_clss rfl (by exact rfl) (by exact rfl) false (decide_eq_false (by omega))) ?_))
      go_ret
      exact ⟨rfl, hw⟩
set_option maxRecDepth 100000 in
theorem rfw_All {cs : List Cov} {bs : List Bav} {A B : Option Addr} {cap capB : Nat} (hp : p.Ok) (hw : Sat E w F)
    (hn : cs.length ≤ 1000) (hr : ∀ w', Sat E w' F → Rd w' 42 (.slice A cs.length cap) cs.length (flat (cs.map Cov.cs))) (hc : ∀ x ∈ cs, NearsRd E F x ∧ NearsIn x)
    (hnb : bs.length ≤ 1000) (hrb : ∀ w', Sat E w' F → Rd w' 44 (.slice B bs.length capB) bs.length (flat (bs.map Bav.cs))) (hf : FarsRd E F bs) (hfi : ∀ b ∈ bs, FarsIn b) :
    Calls Try.prog 9 #[.agg p.cs, .slice A cs.length cap, .slice B bs.length capB] w fun e w' => ∃ A c, e = .returned (.slice A (watchF p cs bs).length c) ∧ Sat E w' (RowN 3 1 (.slice A (watchF p cs bs).length c) (watchF p cs bs).length fN (watchF p cs bs) :: F) := by
  cases hrt : rightB p with
  | true =>
    have e := show watchF p cs bs = faultsL (marksF p cs bs) 9 by unfold watchF; rw [hrt]; rfl
    rw [e]
    exact rfw_Cores hp hrt hw hn hr hc hnb hrb hf hfi
  | false =>
    have HT := Kp.mk hrt
    have e := Kp.mk (watch_no (cs := cs) (bs := bs) hrt)
    rw [e.out]
    clear hrt hr hc hrb hf hfi
    go_enter Try.func9, Try.ntmps9
    go_wp2_with (first
      | (go_at_call 20; go_must (refine (Calls.mono (ref_right (p := p) hw hp) ?_)); clear hw; rintro e w ⟨rfl, hw⟩; rw [HT.out]; (try simp only [List.set_cons_succ, List.set_cons_zero, List.setIfInBounds_toArray, Value.cells, List.eraseIdx_cons_succ, List.eraseIdx_cons_zero] at hw))
      | (refine wl_make1 (d := some 19) hw 9 9 rfl rfl u_bools bool_row rfl (by omega) (by omega) (by omega) ?_; clear hw; intro g w hw)
      | (refine wl_lit0 (el := 3) (sz := 1) hw (by kernel_rfl) (by kernel_rfl) ?_; clear hw; intro bz w hw; (try simp only [List.set_cons_succ, List.set_cons_zero, List.setIfInBounds_toArray, Value.cells, List.eraseIdx_cons_succ, List.eraseIdx_cons_zero] at hw))
      | (refine wl_box (d := some 3) hw _ (by simp only [Act.eval, Act.put, List.setIfInBounds_toArray, List.set_cons_succ, List.set_cons_zero, gd_s, gd_0, Value.cells]; exact rfl) ?_; clear hw; intro b3 w hw; (try simp only [List.set_cons_succ, List.set_cons_zero, List.setIfInBounds_toArray, Value.cells, List.eraseIdx_cons_succ, List.eraseIdx_cons_zero] at hw)) | (refine wb_loadA (d := some 20)  rfl (by first | exact hw.read 0 rfl | exact hw.read 1 rfl | exact hw.read 2 rfl | exact hw.read 3 rfl | exact hw.read 4 rfl) (by rw [plan_agg, Pl.size]) ?_))
    go_ret
    exact ⟨_, _, rfl, (Sat.gets hw (by repeat (first | exact Gets.nil | exact Gets.refl _ | refine Gets.get 0 rfl ?_ | refine Gets.get 1 rfl ?_ | refine Gets.get 2 rfl ?_ | refine Gets.get 3 rfl ?_ | refine Gets.get 4 rfl ?_ | refine Gets.get 5 rfl ?_ | refine Gets.drop ?_)))⟩
set_option maxRecDepth 100000 in
set_option maxHeartbeats 4000000 in
theorem law23_speaks (hw : Sat E w F) : Calls Try.prog 6 #[] w fun e w' => e = .returned (.bool true) ∧ Sat E w' F := by
  have hrt := rightB_fit Pl.two
  obtain ⟨p, hp⟩ : ∃ p, Kp (fitP Pl.two = p) := ⟨_, Kp.mk rfl⟩
  rw [hp.out] at hrt
  go_enter Try.func6, Try.ntmps6
  go_wp2_with (first
    | (refine wl_run (d := some 3) (rn_build (cp := [(0, #[.int .i64 2])]) _ rfl rfl two_build) ?_)
    | (go_at_call 16; go_must (refine (Calls.mono (ref_Fit (p := Pl.two) hw Pl.two_ok) ?_)); clear hw; rintro e w ⟨rfl, hw⟩; rw [hp.out]; (try simp only [List.set_cons_succ, List.set_cons_zero, List.setIfInBounds_toArray, Value.cells, List.eraseIdx_cons_succ, List.eraseIdx_cons_zero] at hw))
    | (refine wl_run (d := some 6) (rn_build (cp := [(1, #[.int .i64 3])]) _ rfl rfl (near_build 3)) ?_)
    | (refine wl_run (d := some 9) (rn_build (cp := [(1, #[.int .i64 1])]) _ rfl rfl (near_build 1)) ?_)
    | (refine wl_lit1 (d := some 7) (el := 38) (sz := 34) hw (by simp only [Act.eval, Act.put, List.setIfInBounds_toArray, List.set_cons_succ, List.set_cons_zero, gd_s, gd_0, Value.cells]; exact rfl) (by kernel_rfl) (by kernel_rfl) (by kernel_rfl) (by exact Nev.size _) (by omega) (by omega) ?_; clear hw; intro bx w hw; (try simp only [List.set_cons_succ, List.set_cons_zero, List.setIfInBounds_toArray, Value.cells, List.eraseIdx_cons_succ, List.eraseIdx_cons_zero] at hw); replace hw := row_w1 (f := Nev.cs) (x := n3) hw (Nev.size _))
    | (refine wl_lit1 (d := some 10) (el := 38) (sz := 34) hw (by simp only [Act.eval, Act.put, List.setIfInBounds_toArray, List.set_cons_succ, List.set_cons_zero, gd_s, gd_0, Value.cells]; exact rfl) (by kernel_rfl) (by kernel_rfl) (by kernel_rfl) (by exact Nev.size _) (by omega) (by omega) ?_; clear hw; intro bY w hw; (try simp only [List.set_cons_succ, List.set_cons_zero, List.setIfInBounds_toArray, Value.cells, List.eraseIdx_cons_succ, List.eraseIdx_cons_zero] at hw); replace hw := row_w1 (f := Nev.cs) (x := n1) hw (Nev.size _))
    | (refine wl_run (d := some 8) (rn_build (cp := [(2, #[.slice (some ⟨bx, 0, none⟩) 1 1])]) _ rfl rfl (core_build' _ [n3] 1)) ?_)
    | (refine wl_run (d := some 11) (rn_build (cp := [(2, #[.slice (some ⟨bY, 0, none⟩) 1 1])]) _ rfl rfl (core_build' _ [n1] 1)) ?_)
    | (refine wl_litN (d := some 12) (el := 40) (sz := 42) hw (by kernel_rfl) (by kernel_rfl) (by decide) (by decide) (by simp only [List.map_cons, List.map_nil, Act.eval, Act.put, List.setIfInBounds_toArray, List.set_cons_succ, List.set_cons_zero, gd_s, gd_0, U_cells, Y_cells, Value.cells]; exact rfl) _ (by exact litCores _ _) ?_; clear hw; intro bL w hw; (try simp only [List.set_cons_succ, List.set_cons_zero, List.setIfInBounds_toArray, Value.cells, List.eraseIdx_cons_succ, List.eraseIdx_cons_zero] at hw); replace hw := row_w2 (f := Cov.cs) (x := Cov.of (some ⟨bx, 0, none⟩) [n3] 1) (y := Cov.of (some ⟨bY, 0, none⟩) [n1] 1) hw (Cov.size _) (Cov.size _) Array.toList_append)
    | (go_at_call 8; go_must (refine (Calls.mono (wch_Cores (p := p) (cs := [Cov.of (some ⟨bx, 0, none⟩) [n3] 1, Cov.of (some ⟨bY, 0, none⟩) [n1] 1]) (bs := []) (B := none) (capB := 0) hw (by show 2 ≤ 1000; omega) (fun w' hs => Rd_row hs 0 rfl) (by
        intro x hx
        simp only [List.mem_cons, List.not_mem_nil, or_false] at hx
        rcases hx with rfl | rfl
        · exact ⟨⟨by show 1 ≤ 1000; omega, fun w' hs => by first | exact Rd_row hs 1 rfl | exact Rd_row hs 2 rfl | exact Rd_row hs 3 rfl⟩, ex_in _ _ i64_0⟩
        · exact ⟨⟨by show 1 ≤ 1000; omega, fun w' hs => by first | exact Rd_row hs 1 rfl | exact Rd_row hs 2 rfl | exact Rd_row hs 3 rfl⟩, ex_in _ _ i64_0⟩) (by show 0 ≤ 1000; omega) (fun w' hs => Rd.nil _ _) (fun b hb => by simp at hb) (fun b hb => by simp at hb)) ?_)); clear hw; rintro e w ⟨A5, c5, rfl, hw⟩; rw [ex_watch hrt]; rw [ex_watch hrt] at hw; (try simp only [List.set_cons_succ, List.set_cons_zero, List.setIfInBounds_toArray, Value.cells, List.eraseIdx_cons_succ, List.eraseIdx_cons_zero] at hw))
    | (refine wl_litN (d := some 15) (el := 3) (sz := 1) hw (by kernel_rfl) (by kernel_rfl) (by decide) (by decide) (by simp only [List.map_cons, List.map_nil, Act.eval, Act.put, List.setIfInBounds_toArray, List.set_cons_succ, List.set_cons_zero, gd_s, gd_0, U_cells, Y_cells, Value.cells]; exact rfl) #[.int .i64 1, .int .i64 2] (by kernel_rfl) ?_; clear hw; intro bI w hw; (try simp only [List.set_cons_succ, List.set_cons_zero, List.setIfInBounds_toArray, Value.cells, List.eraseIdx_cons_succ, List.eraseIdx_cons_zero] at hw); replace hw := row_w2 (f := fN) (x := 1) (y := 2) hw (fN_size _) (fN_size _) rfl)
    | (go_at_call 7; go_must (refine (Calls.mono (rf_SameI (L := [1, 2]) (n := 2) rfl (by decide) hw) ?_)); clear hw; rintro e w ⟨rfl, hw⟩; (try simp only [List.set_cons_succ, List.set_cons_zero, List.setIfInBounds_toArray, Value.cells, List.eraseIdx_cons_succ, List.eraseIdx_cons_zero] at hw))
    | (refine wl_run (d := some 3) (rn_build _ rfl (by simp only [List.map_cons, List.map_nil, Act.eval, Act.put, List.setIfInBounds_toArray, List.set_cons_succ, List.set_cons_zero, gd_s, gd_0, U_cells, Y_cells, Value.cells]; exact rfl) (by exact Pl.b0 ..)) ?_) | (refine wl_alloc (d := some 1) hw plan_zero ?_; clear hw; intro b1 w hw; (try simp only [List.set_cons_succ, List.set_cons_zero, List.setIfInBounds_toArray, Value.cells, List.eraseIdx_cons_succ, List.eraseIdx_cons_zero] at hw)) | (refine wb_storeA (x := Operand.tmp 1) hw rfl rfl (by first | exact Upd.mk 0 rfl | exact Upd.mk 1 rfl | exact Upd.mk 2 rfl | exact Upd.mk 3 rfl | exact Upd.mk 4 rfl | exact Upd.mk 5 rfl | exact Upd.mk 6 rfl | exact Upd.mk 7 rfl | exact Upd.mk 8 rfl) (by rw [plan_info, Pl.size]) (by rw [Pl.size, Pl.size]) (by exact Pl.one _) ?_; clear hw; intro w hw; (try simp only [List.set_cons_succ, List.set_cons_zero, List.setIfInBounds_toArray, Value.cells, List.eraseIdx_cons_succ, List.eraseIdx_cons_zero] at hw)) | (refine wb_loadA (d := some 5)  rfl (by first | exact hw.read 0 rfl | exact hw.read 1 rfl | exact hw.read 2 rfl | exact hw.read 3 rfl | exact hw.read 4 rfl) (by rw [plan_agg, Pl.size]) ?_) | (refine wl_run (d := some 6) (rn_build _ rfl (by simp only [List.map_cons, List.map_nil, Act.eval, Act.put, List.setIfInBounds_toArray, List.set_cons_succ, List.set_cons_zero, gd_s, gd_0, U_cells, Y_cells, Value.cells]; exact rfl) (by exact Nev.b1 ..)) ?_) | (refine wl_lit1 (d := some 7)  (el := 38) (sz := 34) hw (by simp only [Act.eval, Act.put, List.setIfInBounds_toArray, List.set_cons_succ, List.set_cons_zero, gd_s, gd_0, Value.cells]; exact rfl) (by kernel_rfl) (by kernel_rfl) (by kernel_rfl) (by exact Nev.size _) (by omega) (by omega) ?_; clear hw; intro bL w hw; (try simp only [List.set_cons_succ, List.set_cons_zero, List.setIfInBounds_toArray, Value.cells, List.eraseIdx_cons_succ, List.eraseIdx_cons_zero] at hw)) | (refine wl_run (d := some 8) (rn_build _ rfl (by simp only [List.map_cons, List.map_nil, Act.eval, Act.put, List.setIfInBounds_toArray, List.set_cons_succ, List.set_cons_zero, gd_s, gd_0, U_cells, Y_cells, Value.cells]; exact rfl) (by exact Cov.b2 ..)) ?_) | (refine wl_run (d := some 9) (rn_build _ rfl (by simp only [List.map_cons, List.map_nil, Act.eval, Act.put, List.setIfInBounds_toArray, List.set_cons_succ, List.set_cons_zero, gd_s, gd_0, U_cells, Y_cells, Value.cells]; exact rfl) (by exact Nev.b1 ..)) ?_) | (refine wl_lit1 (d := some 10)  (el := 38) (sz := 34) hw (by simp only [Act.eval, Act.put, List.setIfInBounds_toArray, List.set_cons_succ, List.set_cons_zero, gd_s, gd_0, Value.cells]; exact rfl) (by kernel_rfl) (by kernel_rfl) (by kernel_rfl) (by exact Nev.size _) (by omega) (by omega) ?_; clear hw; intro bL w hw; (try simp only [List.set_cons_succ, List.set_cons_zero, List.setIfInBounds_toArray, Value.cells, List.eraseIdx_cons_succ, List.eraseIdx_cons_zero] at hw)) | (refine wl_run (d := some 11) (rn_build _ rfl (by simp only [List.map_cons, List.map_nil, Act.eval, Act.put, List.setIfInBounds_toArray, List.set_cons_succ, List.set_cons_zero, gd_s, gd_0, U_cells, Y_cells, Value.cells]; exact rfl) (by exact Cov.b2 ..)) ?_))
  go_ret
  exact ⟨rfl, (Sat.gets hw (by repeat (first | exact Gets.nil | exact Gets.refl _ | refine Gets.get 0 rfl ?_ | refine Gets.get 1 rfl ?_ | refine Gets.get 2 rfl ?_ | refine Gets.get 3 rfl ?_ | refine Gets.get 4 rfl ?_ | refine Gets.get 5 rfl ?_ | refine Gets.drop ?_)))⟩
set_option maxRecDepth 100000 in
set_option maxHeartbeats 8000000 in
theorem law_WatchCores {W : World} {cs : List Cov} {bs : List Bav} {A B : Option Addr} {cap capB : Nat} (hp : p.Ok)
    (hr : Rd W 42 (.slice A cs.length cap) cs.length (flat (cs.map Cov.cs))) (hc : ∀ x ∈ cs, Rd W 34 (.slice x.A x.ls.length x.cap) x.ls.length (flat (x.ls.map Nev.cs)) ∧ NearsIn x)
    (hrb : Rd W 44 (.slice B bs.length capB) bs.length (flat (bs.map Bav.cs))) (hf : ∀ b ∈ bs, Rd W 36 (.slice b.A b.ls.length b.cap) b.ls.length (flat (b.ls.map Fav.cs)) ∧ FarsIn b) :
    Calls Try.prog 3 #[.agg p.cs, .slice A cs.length cap, .slice B bs.length capB] W fun e w' => e = .returned (.bool true) ∧ Sat (World.env W) w' [Old W] := by
  have HR := Kp.mk (show ∀ w', Sat (World.env W) w' [Old W] → Rd w' 42 (.slice A cs.length cap) cs.length (flat (cs.map Cov.cs)) from fun w' hs => hr.sub (hs.subOld 0 rfl))
  have HB := Kp.mk (show ∀ w', Sat (World.env W) w' [Old W] → Rd w' 44 (.slice B bs.length capB) bs.length (flat (bs.map Bav.cs)) from fun w' hs => hrb.sub (hs.subOld 0 rfl))
  have HC := Kp.mk hc
  have HF := Kp.mk hf
  clear hr hrb hc hf
  have hw : Sat (World.env W) W [Old W] := Sat.init W
  generalize hw0 : W = w at hw ⊢
  subst hw0
  by_cases hM : 8 < cs.length
  · go_enter Try.func3, Try.ntmps3
    go_wp2_with (first
      | (go_at_call 6; go_must (refine (Calls.mono (law23_speaks hw) ?_)); clear hw; rintro e w ⟨rfl, hw⟩; (try simp only [List.set_cons_succ, List.set_cons_zero, List.setIfInBounds_toArray, Value.cells, List.eraseIdx_cons_succ, List.eraseIdx_cons_zero] at hw))
      | (refine wl_box (d := some 3) hw _ (by simp only [Act.eval, Act.put, List.setIfInBounds_toArray, List.set_cons_succ, List.set_cons_zero, gd_s, gd_0, Value.cells]; exact rfl) ?_; clear hw; intro b3 w hw; (try simp only [List.set_cons_succ, List.set_cons_zero, List.setIfInBounds_toArray, Value.cells, List.eraseIdx_cons_succ, List.eraseIdx_cons_zero] at hw)) | (refine wl_run (d := some 15) (rn_cgtr rfl (by exact rfl) (by exact rfl) true (decide_eq_true (by omega))) ?_) | (refine wl_run (d := some 15) (rn_cgtr rfl (by exact rfl) (by exact rfl) false (decide_eq_false (by omega))) ?_) | (refine wg_run (d := some 19) (by rfl) (rn_cgtr rfl (by exact rfl) (by exact rfl) true (decide_eq_true (by omega))) ?_) | (refine wg_run (d := some 19) (by rfl) (rn_cgtr rfl (by exact rfl) (by exact rfl) false (decide_eq_false (by omega))) ?_))
    go_ret
    exact ⟨rfl, (Sat.gets hw (by repeat (first | exact Gets.nil | exact Gets.refl _ | refine Gets.get 0 rfl ?_ | refine Gets.get 1 rfl ?_ | refine Gets.get 2 rfl ?_ | refine Gets.get 3 rfl ?_ | refine Gets.get 4 rfl ?_ | refine Gets.get 5 rfl ?_ | refine Gets.drop ?_)))⟩
  by_cases hN : 8 < bs.length
  · go_enter Try.func3, Try.ntmps3
    go_wp2_with (first
      | (go_at_call 6; go_must (refine (Calls.mono (law23_speaks hw) ?_)); clear hw; rintro e w ⟨rfl, hw⟩; (try simp only [List.set_cons_succ, List.set_cons_zero, List.setIfInBounds_toArray, Value.cells, List.eraseIdx_cons_succ, List.eraseIdx_cons_zero] at hw))
      | (refine wl_box (d := some 3) hw _ (by simp only [Act.eval, Act.put, List.setIfInBounds_toArray, List.set_cons_succ, List.set_cons_zero, gd_s, gd_0, Value.cells]; exact rfl) ?_; clear hw; intro b3 w hw; (try simp only [List.set_cons_succ, List.set_cons_zero, List.setIfInBounds_toArray, Value.cells, List.eraseIdx_cons_succ, List.eraseIdx_cons_zero] at hw)) | (refine wl_run (d := some 15) (rn_cgtr rfl (by exact rfl) (by exact rfl) true (decide_eq_true (by omega))) ?_) | (refine wl_run (d := some 15) (rn_cgtr rfl (by exact rfl) (by exact rfl) false (decide_eq_false (by omega))) ?_) | (refine wg_run (d := some 19) (by rfl) (rn_cgtr rfl (by exact rfl) (by exact rfl) true (decide_eq_true (by omega))) ?_) | (refine wg_run (d := some 19) (by rfl) (rn_cgtr rfl (by exact rfl) (by exact rfl) false (decide_eq_false (by omega))) ?_))
    go_ret
    exact ⟨rfl, (Sat.gets hw (by repeat (first | exact Gets.nil | exact Gets.refl _ | refine Gets.get 0 rfl ?_ | refine Gets.get 1 rfl ?_ | refine Gets.get 2 rfl ?_ | refine Gets.get 3 rfl ?_ | refine Gets.get 4 rfl ?_ | refine Gets.get 5 rfl ?_ | refine Gets.drop ?_)))⟩
  go_enter Try.func3, Try.ntmps3
  go_wp2_with (first
    | (go_at_call 6; go_must (refine (Calls.mono (law23_speaks hw) ?_)); clear hw; rintro e w ⟨rfl, hw⟩; (try simp only [List.set_cons_succ, List.set_cons_zero, List.setIfInBounds_toArray, Value.cells, List.eraseIdx_cons_succ, List.eraseIdx_cons_zero] at hw))
    | (refine wl_box (d := some 3) hw _ (by simp only [Act.eval, Act.put, List.setIfInBounds_toArray, List.set_cons_succ, List.set_cons_zero, gd_s, gd_0, Value.cells]; exact rfl) ?_; clear hw; intro b3 w hw; (try simp only [List.set_cons_succ, List.set_cons_zero, List.setIfInBounds_toArray, Value.cells, List.eraseIdx_cons_succ, List.eraseIdx_cons_zero] at hw)) | (refine wl_run (d := some 15) (rn_cgtr rfl (by exact rfl) (by exact rfl) true (decide_eq_true (by omega))) ?_) | (refine wl_run (d := some 15) (rn_cgtr rfl (by exact rfl) (by exact rfl) false (decide_eq_false (by omega))) ?_) | (refine wg_run (d := some 19) (by rfl) (rn_cgtr rfl (by exact rfl) (by exact rfl) true (decide_eq_true (by omega))) ?_) | (refine wg_run (d := some 19) (by rfl) (rn_cgtr rfl (by exact rfl) (by exact rfl) false (decide_eq_false (by omega))) ?_))
  go_loopw [23] (fun i wr => ∃ j : Nat, j ≤ cs.length ∧ i = .int .i64 j ∧ Kp (∀ x ∈ cs.take j, x.ls.length ≤ 30) ∧ Sat (World.env W) wr (pt b3 (.cells p.cs 28 (0, 0)) :: [Old W])) (fun i _ => cs.length - (intOf i).toNat)
  case atStart => exact ⟨0, by omega, rfl, Kp.mk (by simp), hw⟩
  case round =>
    clear hw
    obtain ⟨j, hj, rfl, hall, hw⟩ := hrel
    by_cases hlt : j < cs.length
    · obtain ⟨x, hx⟩ : ∃ x, cs[j]? = some x := ⟨_, List.getElem?_eq_getElem hlt⟩
      obtain ⟨ga, qa, hAA, hcell⟩ := rd_el (f := Cov.cs) Cov.size (by decide) HR.out (by first | exact hw | exact hw.tail | exact hw.tail.tail | exact hw.tail.tail.tail | exact hw.tail.tail.tail.tail | exact hw.tail.tail.tail.tail.tail | exact hw.tail.tail.tail.tail.tail.tail) hx
      subst hAA
      have HX := Kp.mk hcell
      by_cases hL : 30 < x.ls.length
      · clear hcell hx
        go_wp2_with (first
          | (refine wl_run (d := some 25) (rn_rdIdx rfl rfl rfl u_cores cov_info hlt) ?_)
          | (refine wl_run (d := some 26) (rn_rdLdA (m := x.cs) rfl rfl (by rw [cov_agg, Cov.size]) (HX.out _ (by first | exact hw | exact hw.tail | exact hw.tail.tail | exact hw.tail.tail.tail | exact hw.tail.tail.tail.tail | exact hw.tail.tail.tail.tail.tail | exact hw.tail.tail.tail.tail.tail.tail))) ?_)
          | (refine wl_run (d := some 24) (rn_clss rfl (by exact rfl) (by exact rfl) true (decide_eq_true (by omega))) ?_) | (refine wl_run (d := some 24) (rn_clss rfl (by exact rfl) (by exact rfl) false (decide_eq_false (by omega))) ?_) | (refine wl_alloc (d := some 8) hw cov_zero ?_; clear hw; intro b8 w hw; (try simp only [List.set_cons_succ, List.set_cons_zero, List.setIfInBounds_toArray, Value.cells, List.eraseIdx_cons_succ, List.eraseIdx_cons_zero] at hw)) | (refine wb_storeA (x := Operand.tmp 8) hw rfl rfl (by first | exact Upd.mk 0 rfl | exact Upd.mk 1 rfl | exact Upd.mk 2 rfl | exact Upd.mk 3 rfl | exact Upd.mk 4 rfl | exact Upd.mk 5 rfl | exact Upd.mk 6 rfl | exact Upd.mk 7 rfl | exact Upd.mk 8 rfl) (by rw [cov_info, Cov.size]) (by rw [Cov.size, Cov.size]) (by exact Cov.one _) ?_; clear hw; intro w hw; (try simp only [List.set_cons_succ, List.set_cons_zero, List.setIfInBounds_toArray, Value.cells, List.eraseIdx_cons_succ, List.eraseIdx_cons_zero] at hw)) | (refine wb_load1 (d := some 28)  rfl (by first | exact hw.read 0 rfl | exact hw.read 1 rfl | exact hw.read 2 rfl | exact hw.read 3 rfl | exact hw.read 4 rfl) (by decide +kernel) (by exact Cov.c6 _) ?_) | (refine wl_run (d := some 30) (rn_cgtr rfl (by exact rfl) (by exact rfl) true (decide_eq_true (by omega))) ?_) | (refine wl_run (d := some 30) (rn_cgtr rfl (by exact rfl) (by exact rfl) false (decide_eq_false (by omega))) ?_))
        go_ret
        exact ⟨rfl, (Sat.gets hw (by repeat (first | exact Gets.nil | exact Gets.refl _ | refine Gets.get 0 rfl ?_ | refine Gets.get 1 rfl ?_ | refine Gets.get 2 rfl ?_ | refine Gets.get 3 rfl ?_ | refine Gets.get 4 rfl ?_ | refine Gets.get 5 rfl ?_ | refine Gets.drop ?_)))⟩
      · have HALL := Kp.mk (show ∀ y ∈ cs.take (j + 1), y.ls.length ≤ 30 by
          rw [← take_get hx]
          intro y hy
          rcases List.mem_append.1 hy with hy | hy
          · exact hall.out y hy
          · obtain rfl : y = x := by simpa using hy
            omega)
        clear hcell hx
        go_wp2_with (first
          | (refine wl_run (d := some 25) (rn_rdIdx rfl rfl rfl u_cores cov_info hlt) ?_)
          | (refine wl_run (d := some 26) (rn_rdLdA (m := x.cs) rfl rfl (by rw [cov_agg, Cov.size]) (HX.out _ (by first | exact hw | exact hw.tail | exact hw.tail.tail | exact hw.tail.tail.tail | exact hw.tail.tail.tail.tail | exact hw.tail.tail.tail.tail.tail | exact hw.tail.tail.tail.tail.tail.tail))) ?_)
          | (refine wl_run (d := some 24) (rn_clss rfl (by exact rfl) (by exact rfl) true (decide_eq_true (by omega))) ?_) | (refine wl_run (d := some 24) (rn_clss rfl (by exact rfl) (by exact rfl) false (decide_eq_false (by omega))) ?_) | (refine wl_alloc (d := some 8) hw cov_zero ?_; clear hw; intro b8 w hw; (try simp only [List.set_cons_succ, List.set_cons_zero, List.setIfInBounds_toArray, Value.cells, List.eraseIdx_cons_succ, List.eraseIdx_cons_zero] at hw)) | (refine wb_storeA (x := Operand.tmp 8) hw rfl rfl (by first | exact Upd.mk 0 rfl | exact Upd.mk 1 rfl | exact Upd.mk 2 rfl | exact Upd.mk 3 rfl | exact Upd.mk 4 rfl | exact Upd.mk 5 rfl | exact Upd.mk 6 rfl | exact Upd.mk 7 rfl | exact Upd.mk 8 rfl) (by rw [cov_info, Cov.size]) (by rw [Cov.size, Cov.size]) (by exact Cov.one _) ?_; clear hw; intro w hw; (try simp only [List.set_cons_succ, List.set_cons_zero, List.setIfInBounds_toArray, Value.cells, List.eraseIdx_cons_succ, List.eraseIdx_cons_zero] at hw)) | (refine wb_load1 (d := some 28)  rfl (by first | exact hw.read 0 rfl | exact hw.read 1 rfl | exact hw.read 2 rfl | exact hw.read 3 rfl | exact hw.read 4 rfl) (by decide +kernel) (by exact Cov.c6 _) ?_) | (refine wl_run (d := some 30) (rn_cgtr rfl (by exact rfl) (by exact rfl) true (decide_eq_true (by omega))) ?_) | (refine wl_run (d := some 30) (rn_cgtr rfl (by exact rfl) (by exact rfl) false (decide_eq_false (by omega))) ?_) | (refine wl_run (d := some 31) (rn_cadd rfl (by exact rfl) (by exact rfl) _ rfl (by omega)) ?_))
        go_roundw
        case rel => exact ⟨j + 1, by omega, by go_num, HALL, (Sat.gets hw (by repeat (first | exact Gets.nil | exact Gets.refl _ | refine Gets.get 0 rfl ?_ | refine Gets.get 1 rfl ?_ | refine Gets.get 2 rfl ?_ | refine Gets.get 3 rfl ?_ | refine Gets.get 4 rfl ?_ | refine Gets.get 5 rfl ?_ | refine Gets.drop ?_)))⟩
        case measure => simp [intOf]; omega
    · obtain rfl : cs.length = j := by omega
      have HALL := Kp.mk (show ∀ x ∈ cs, x.ls.length ≤ 30 by
        have h := hall.out
        rw [List.take_length] at h
        exact h)
      clear hall
      go_wp2_with (first | (refine wl_run (d := some 24) (rn_clss rfl (by exact rfl) (by exact rfl) true (decide_eq_true (by omega))) ?_) | (refine wl_run (d := some 24) (rn_clss rfl (by exact rfl) (by exact rfl) false (decide_eq_false (by omega))) ?_))
      go_loopw [34] (fun i wr => ∃ j : Nat, j ≤ bs.length ∧ i = .int .i64 j ∧ Kp (∀ x ∈ bs.take j, x.ls.length ≤ 30) ∧ Sat (World.env W) wr (pt b3 (.cells p.cs 28 (0, 0)) :: [Old W])) (fun i _ => bs.length - (intOf i).toNat)
      case atStart => exact ⟨0, by omega, rfl, Kp.mk (by simp), hw⟩
      case round =>
        clear hw
        obtain ⟨j, hj, rfl, hall, hw⟩ := hrel
        by_cases hlt : j < bs.length
        · obtain ⟨x, hx⟩ : ∃ x, bs[j]? = some x := ⟨_, List.getElem?_eq_getElem hlt⟩
          obtain ⟨ga, qa, hAA, hcell⟩ := rd_el (f := Bav.cs) Bav.size (by decide) HB.out (by first | exact hw | exact hw.tail | exact hw.tail.tail | exact hw.tail.tail.tail | exact hw.tail.tail.tail.tail | exact hw.tail.tail.tail.tail.tail | exact hw.tail.tail.tail.tail.tail.tail) hx
          subst hAA
          have HX := Kp.mk hcell
          by_cases hL : 30 < x.ls.length
          · clear hcell hx
            go_wp2_with (first
              | (refine wl_run (d := some 36) (rn_rdIdx rfl rfl rfl u_banks bav_info hlt) ?_)
              | (refine wl_run (d := some 37) (rn_rdLdA (m := x.cs) rfl rfl (by rw [bav_agg, Bav.size]) (HX.out _ (by first | exact hw | exact hw.tail | exact hw.tail.tail | exact hw.tail.tail.tail | exact hw.tail.tail.tail.tail | exact hw.tail.tail.tail.tail.tail | exact hw.tail.tail.tail.tail.tail.tail))) ?_)
              | (refine wl_run (d := some 35) (rn_clss rfl (by exact rfl) (by exact rfl) true (decide_eq_true (by omega))) ?_) | (refine wl_run (d := some 35) (rn_clss rfl (by exact rfl) (by exact rfl) false (decide_eq_false (by omega))) ?_) | (refine wl_alloc (d := some 10) hw bav_zero ?_; clear hw; intro b10 w hw; (try simp only [List.set_cons_succ, List.set_cons_zero, List.setIfInBounds_toArray, Value.cells, List.eraseIdx_cons_succ, List.eraseIdx_cons_zero] at hw)) | (refine wb_storeA (x := Operand.tmp 10) hw rfl rfl (by first | exact Upd.mk 0 rfl | exact Upd.mk 1 rfl | exact Upd.mk 2 rfl | exact Upd.mk 3 rfl | exact Upd.mk 4 rfl | exact Upd.mk 5 rfl | exact Upd.mk 6 rfl | exact Upd.mk 7 rfl | exact Upd.mk 8 rfl) (by rw [bav_info, Bav.size]) (by rw [Bav.size, Bav.size]) (by exact Bav.one _) ?_; clear hw; intro w hw; (try simp only [List.set_cons_succ, List.set_cons_zero, List.setIfInBounds_toArray, Value.cells, List.eraseIdx_cons_succ, List.eraseIdx_cons_zero] at hw)) | (refine wb_load1 (d := some 39)  rfl (by first | exact hw.read 0 rfl | exact hw.read 1 rfl | exact hw.read 2 rfl | exact hw.read 3 rfl | exact hw.read 4 rfl) (by decide +kernel) (by exact Bav.c43 _) ?_) | (refine wl_run (d := some 41) (rn_cgtr rfl (by exact rfl) (by exact rfl) true (decide_eq_true (by omega))) ?_) | (refine wl_run (d := some 41) (rn_cgtr rfl (by exact rfl) (by exact rfl) false (decide_eq_false (by omega))) ?_))
            go_ret
            exact ⟨rfl, (Sat.gets hw (by repeat (first | exact Gets.nil | exact Gets.refl _ | refine Gets.get 0 rfl ?_ | refine Gets.get 1 rfl ?_ | refine Gets.get 2 rfl ?_ | refine Gets.get 3 rfl ?_ | refine Gets.get 4 rfl ?_ | refine Gets.get 5 rfl ?_ | refine Gets.drop ?_)))⟩
          · have HALL2 := Kp.mk (show ∀ y ∈ bs.take (j + 1), y.ls.length ≤ 30 by
              rw [← take_get hx]
              intro y hy
              rcases List.mem_append.1 hy with hy | hy
              · exact hall.out y hy
              · obtain rfl : y = x := by simpa using hy
                omega)
            clear hcell hx
            go_wp2_with (first
              | (refine wl_run (d := some 36) (rn_rdIdx rfl rfl rfl u_banks bav_info hlt) ?_)
              | (refine wl_run (d := some 37) (rn_rdLdA (m := x.cs) rfl rfl (by rw [bav_agg, Bav.size]) (HX.out _ (by first | exact hw | exact hw.tail | exact hw.tail.tail | exact hw.tail.tail.tail | exact hw.tail.tail.tail.tail | exact hw.tail.tail.tail.tail.tail | exact hw.tail.tail.tail.tail.tail.tail))) ?_)
              | (refine wl_run (d := some 35) (rn_clss rfl (by exact rfl) (by exact rfl) true (decide_eq_true (by omega))) ?_) | (refine wl_run (d := some 35) (rn_clss rfl (by exact rfl) (by exact rfl) false (decide_eq_false (by omega))) ?_) | (refine wl_alloc (d := some 10) hw bav_zero ?_; clear hw; intro b10 w hw; (try simp only [List.set_cons_succ, List.set_cons_zero, List.setIfInBounds_toArray, Value.cells, List.eraseIdx_cons_succ, List.eraseIdx_cons_zero] at hw)) | (refine wb_storeA (x := Operand.tmp 10) hw rfl rfl (by first | exact Upd.mk 0 rfl | exact Upd.mk 1 rfl | exact Upd.mk 2 rfl | exact Upd.mk 3 rfl | exact Upd.mk 4 rfl | exact Upd.mk 5 rfl | exact Upd.mk 6 rfl | exact Upd.mk 7 rfl | exact Upd.mk 8 rfl) (by rw [bav_info, Bav.size]) (by rw [Bav.size, Bav.size]) (by exact Bav.one _) ?_; clear hw; intro w hw; (try simp only [List.set_cons_succ, List.set_cons_zero, List.setIfInBounds_toArray, Value.cells, List.eraseIdx_cons_succ, List.eraseIdx_cons_zero] at hw)) | (refine wb_load1 (d := some 39)  rfl (by first | exact hw.read 0 rfl | exact hw.read 1 rfl | exact hw.read 2 rfl | exact hw.read 3 rfl | exact hw.read 4 rfl) (by decide +kernel) (by exact Bav.c43 _) ?_) | (refine wl_run (d := some 41) (rn_cgtr rfl (by exact rfl) (by exact rfl) true (decide_eq_true (by omega))) ?_) | (refine wl_run (d := some 41) (rn_cgtr rfl (by exact rfl) (by exact rfl) false (decide_eq_false (by omega))) ?_) | (refine wl_run (d := some 42) (rn_cadd rfl (by exact rfl) (by exact rfl) _ rfl (by omega)) ?_))
            go_roundw
            case rel => exact ⟨j + 1, by omega, by go_num, HALL2, (Sat.gets hw (by repeat (first | exact Gets.nil | exact Gets.refl _ | refine Gets.get 0 rfl ?_ | refine Gets.get 1 rfl ?_ | refine Gets.get 2 rfl ?_ | refine Gets.get 3 rfl ?_ | refine Gets.get 4 rfl ?_ | refine Gets.get 5 rfl ?_ | refine Gets.drop ?_)))⟩
            case measure => simp [intOf]; omega
        · obtain rfl : bs.length = j := by omega
          have HALL2 := Kp.mk (show ∀ x ∈ bs, x.ls.length ≤ 30 by
            have h := hall.out
            rw [List.take_length] at h
            exact h)
          clear hall
          have hc1 := Kp.mk (show ∀ x ∈ cs, NearsRd (World.env W) [Old W] x ∧ NearsIn x from fun x hx => ⟨⟨Nat.le_trans (HALL.out x hx) (by decide), fun w' hs => (HC.out x hx).1.sub (hs.subOld 0 rfl)⟩, (HC.out x hx).2⟩)
          have hf1 := Kp.mk (show FarsRd (World.env W) [Old W] bs from fun b hb => ⟨Nat.le_trans (HALL2.out b hb) (by decide), fun w' hs => (HF.out b hb).1.sub (hs.subOld 0 rfl)⟩)
          have hf2 := Kp.mk (show ∀ b ∈ bs, FarsIn b from fun b hb => (HF.out b hb).2)
          obtain ⟨L, hLL⟩ : ∃ L, Kp (watchF p cs bs = L) := ⟨_, Kp.mk rfl⟩
          obtain ⟨n, hn⟩ : ∃ n, Kp (L.length = n) := ⟨_, Kp.mk rfl⟩
          have hn9 : n ≤ 1000 := by
            rw [← hn.out, ← hLL.out]
            unfold watchF
            exact Nat.le_trans (faults_len _ 9) (by decide)
          go_upto_region 17 with (first | (refine wl_run (d := some 35) (rn_clss rfl (by exact rfl) (by exact rfl) true (decide_eq_true (by omega))) ?_) | (refine wl_run (d := some 35) (rn_clss rfl (by exact rfl) (by exact rfl) false (decide_eq_false (by omega))) ?_))
          have hS0 := hw
          refine startS (ds := []) hS0 #[false, false, false, false, false, false, false, false, false, false] (by kernel_rfl) rfl (by rfl) ?_
          clear hS0; intro hS
          replace hw := hw.drew; generalize w.drew = w at hw hS ⊢
          (refine pureE (i := 1) (oi := { dst := some 44, op := Op.move (Operand.tmp 1), type := 29, pos := "law.go:39", after := #[], guard := none }) (N := some 44) #[false, true, false, false, false, false, false, false, false, false] rfl rfl (by kernel_rfl) (fun _ _ _ _ h => h) ?_; apply Exists.intro; refine ⟨Or.inl ⟨by rfl, ?_⟩, ?_⟩; · (intro w0; go_simp; try with_reducible rfl))
          try simp only [Act.put, List.setIfInBounds_toArray, List.set_cons_succ, List.set_cons_zero]
          (refine pureE (i := 2) (oi := { dst := some 45, op := Op.move (Operand.tmp 2), type := 30, pos := "law.go:39", after := #[], guard := none }) (N := some 45) #[false, true, true, false, false, false, false, false, false, false] rfl rfl (by kernel_rfl) (fun _ _ _ _ h => h) ?_; apply Exists.intro; refine ⟨Or.inl ⟨by rfl, ?_⟩, ?_⟩; · (intro w0; go_simp; try with_reducible rfl))
          try simp only [Act.put, List.setIfInBounds_toArray, List.set_cons_succ, List.set_cons_zero]
          (refine pureE (i := 5) (oi := { dst := some 48, op := Op.move (Operand.tmp 1), type := 29, pos := "law.go:39", after := #[], guard := none }) (N := some 48) #[false, true, true, false, false, true, false, false, false, false] rfl rfl (by kernel_rfl) (fun _ _ _ _ h => h) ?_; apply Exists.intro; refine ⟨Or.inl ⟨by rfl, ?_⟩, ?_⟩; · (intro w0; go_simp; try with_reducible rfl))
          try simp only [Act.put, List.setIfInBounds_toArray, List.set_cons_succ, List.set_cons_zero]
          (refine pureE (i := 6) (oi := { dst := some 49, op := Op.move (Operand.tmp 2), type := 30, pos := "law.go:39", after := #[], guard := none }) (N := some 49) #[false, true, true, false, false, true, true, false, false, false] rfl rfl (by kernel_rfl) (fun _ _ _ _ h => h) ?_; apply Exists.intro; refine ⟨Or.inl ⟨by rfl, ?_⟩, ?_⟩; · (intro w0; go_simp; try with_reducible rfl))
          try simp only [Act.put, List.setIfInBounds_toArray, List.set_cons_succ, List.set_cons_zero]
          (refine takeE (i := 0) (oi := { dst := some 43, op := Op.load 28 (Operand.tmp 3), type := 28, pos := "law.go:39", after := #[], guard := none }) (N := some 43) #[true, true, true, false, false, true, true, false, false, false] rfl rfl (by kernel_rfl) (fun _ _ _ _ h => h) hS ?_; apply Exists.intro; refine ⟨Or.inl ⟨by rfl, ?_⟩, ?_⟩; · (intro w0 h; first | (exact rnb_loadA rfl rfl (by first | exact h.read 0 rfl | exact h.read 1 rfl | exact h.read 2 rfl | exact h.read 3 rfl | exact h.read 4 rfl) (by rw [plan_agg, Pl.size])) | (go_simp; with_reducible rfl)))
          try simp only [Act.put, List.setIfInBounds_toArray, List.set_cons_succ, List.set_cons_zero]
          (refine takeE (i := 4) (oi := { dst := some 47, op := Op.load 28 (Operand.tmp 3), type := 28, pos := "law.go:39", after := #[], guard := none }) (N := some 47) #[true, true, true, false, true, true, true, false, false, false] rfl rfl (by kernel_rfl) (fun _ _ _ _ h => h) hS ?_; apply Exists.intro; refine ⟨Or.inl ⟨by rfl, ?_⟩, ?_⟩; · (intro w0 h; first | (exact rnb_loadA rfl rfl (by first | exact h.read 0 rfl | exact h.read 1 rfl | exact h.read 2 rfl | exact h.read 3 rfl | exact h.read 4 rfl) (by rw [plan_agg, Pl.size])) | (go_simp; with_reducible rfl)))
          try simp only [Act.put, List.setIfInBounds_toArray, List.set_cons_succ, List.set_cons_zero]
          (refine one_ (i := 3) (oi := { dst := some 46, op := Op.call { callee := Callee.value (Operand.func 8), args := #[Operand.tmp 43, Operand.tmp 44, Operand.tmp 45], argTypes := #[28, 29, 30] }, type := 47, pos := "law.go:39", after := #[eD 0, eD 1, eD 2], guard := none }) (N := some 46) #[true, true, true, true, true, true, true, false, false, false] rfl rfl (by kernel_rfl) (by decide) (fun K hK => ?_); rw [if_pos (by rfl)]; first | (refine wk_call 8 rfl (by kernel_rfl) ?_; simp only [List.map_toArray, List.map_cons, List.map_nil, Act.eval, gd_s, gd_0]; go_must (refine (Calls.mono (wch_Cores (p := p) (cs := cs) (bs := bs) hw (by omega) (fun w' hs => HR.out w' (by first | exact hs | exact hs.tail | exact hs.tail.tail | exact hs.tail.tail.tail | exact hs.tail.tail.tail.tail | exact hs.tail.tail.tail.tail.tail | exact hs.tail.tail.tail.tail.tail.tail)) (fun x hx => ⟨⟨(hc1.out x hx).1.1, fun w' hs => (hc1.out x hx).1.2 w' (by first | exact hs | exact hs.tail | exact hs.tail.tail | exact hs.tail.tail.tail | exact hs.tail.tail.tail.tail | exact hs.tail.tail.tail.tail.tail | exact hs.tail.tail.tail.tail.tail.tail)⟩, (hc1.out x hx).2⟩) (by omega) (fun w' hs => HB.out w' (by first | exact hs | exact hs.tail | exact hs.tail.tail | exact hs.tail.tail.tail | exact hs.tail.tail.tail.tail | exact hs.tail.tail.tail.tail.tail | exact hs.tail.tail.tail.tail.tail.tail)) (fun b hb => ⟨(hf1.out b hb).1, fun w' hs => (hf1.out b hb).2 w' (by first | exact hs | exact hs.tail | exact hs.tail.tail | exact hs.tail.tail.tail | exact hs.tail.tail.tail.tail | exact hs.tail.tail.tail.tail.tail | exact hs.tail.tail.tail.tail.tail.tail)⟩) hf2.out) ?_)); clear hw; rintro e w ⟨A5, c5, rfl, hw⟩; rw [hLL.out, hn.out]; rw [hLL.out, hn.out] at hw; (try simp only [List.set_cons_succ, List.set_cons_zero, List.setIfInBounds_toArray, Value.cells, List.eraseIdx_cons_succ, List.eraseIdx_cons_zero] at hw); refine ⟨_, rfl, ?_⟩) | (refine wk_call 9 rfl (by kernel_rfl) ?_; simp only [List.map_toArray, List.map_cons, List.map_nil, Act.eval, gd_s, gd_0]; go_must (refine (Calls.mono (rfw_All (p := p) (cs := cs) (bs := bs) hp hw (by omega) (fun w' hs => HR.out w' (by first | exact hs | exact hs.tail | exact hs.tail.tail | exact hs.tail.tail.tail | exact hs.tail.tail.tail.tail | exact hs.tail.tail.tail.tail.tail | exact hs.tail.tail.tail.tail.tail.tail)) (fun x hx => ⟨⟨(hc1.out x hx).1.1, fun w' hs => (hc1.out x hx).1.2 w' (by first | exact hs | exact hs.tail | exact hs.tail.tail | exact hs.tail.tail.tail | exact hs.tail.tail.tail.tail | exact hs.tail.tail.tail.tail.tail | exact hs.tail.tail.tail.tail.tail.tail)⟩, (hc1.out x hx).2⟩) (by omega) (fun w' hs => HB.out w' (by first | exact hs | exact hs.tail | exact hs.tail.tail | exact hs.tail.tail.tail | exact hs.tail.tail.tail.tail | exact hs.tail.tail.tail.tail.tail | exact hs.tail.tail.tail.tail.tail.tail)) (fun b hb => ⟨(hf1.out b hb).1, fun w' hs => (hf1.out b hb).2 w' (by first | exact hs | exact hs.tail | exact hs.tail.tail | exact hs.tail.tail.tail | exact hs.tail.tail.tail.tail | exact hs.tail.tail.tail.tail.tail | exact hs.tail.tail.tail.tail.tail.tail)⟩) hf2.out) ?_)); clear hw; rintro e w ⟨A6, c6, rfl, hw⟩; rw [hLL.out, hn.out]; rw [hLL.out, hn.out] at hw; (try simp only [List.set_cons_succ, List.set_cons_zero, List.setIfInBounds_toArray, Value.cells, List.eraseIdx_cons_succ, List.eraseIdx_cons_zero] at hw); refine ⟨_, rfl, ?_⟩) | (refine wk_call 7 rfl (by kernel_rfl) ?_; simp only [List.map_toArray, List.map_cons, List.map_nil, Act.eval, gd_s, gd_0]; go_must (refine (Calls.mono (rf_SameI (L := L) hn.out hn9 hw) ?_)); clear hw; rintro e w ⟨rfl, hw⟩; (try simp only [List.set_cons_succ, List.set_cons_zero, List.setIfInBounds_toArray, Value.cells, List.eraseIdx_cons_succ, List.eraseIdx_cons_zero] at hw); refine ⟨_, rfl, ?_⟩))
          refine hK.out _ _ (Sat.gets hw (by repeat (first | exact Gets.nil | exact Gets.refl _ | refine Gets.get 0 rfl ?_ | refine Gets.get 1 rfl ?_ | refine Gets.get 2 rfl ?_ | refine Gets.get 3 rfl ?_ | refine Gets.get 4 rfl ?_ | refine Gets.get 5 rfl ?_ | refine Gets.drop ?_))) (fun hS => ?_); clear hK K; try simp only [Act.put, List.setIfInBounds_toArray, List.set_cons_succ, List.set_cons_zero]
          (refine one_ (i := 7) (oi := { dst := some 50, op := Op.call { callee := Callee.value (Operand.func 9), args := #[Operand.tmp 47, Operand.tmp 48, Operand.tmp 49], argTypes := #[28, 29, 30] }, type := 47, pos := "law.go:39", after := #[eD 4, eD 5, eD 6, eC 3], guard := none }) (N := some 50) #[true, true, true, true, true, true, true, true, false, false] rfl rfl (by kernel_rfl) (by decide) (fun K hK => ?_); rw [if_pos (by rfl)]; first | (refine wk_call 8 rfl (by kernel_rfl) ?_; simp only [List.map_toArray, List.map_cons, List.map_nil, Act.eval, gd_s, gd_0]; go_must (refine (Calls.mono (wch_Cores (p := p) (cs := cs) (bs := bs) hw (by omega) (fun w' hs => HR.out w' (by first | exact hs | exact hs.tail | exact hs.tail.tail | exact hs.tail.tail.tail | exact hs.tail.tail.tail.tail | exact hs.tail.tail.tail.tail.tail | exact hs.tail.tail.tail.tail.tail.tail)) (fun x hx => ⟨⟨(hc1.out x hx).1.1, fun w' hs => (hc1.out x hx).1.2 w' (by first | exact hs | exact hs.tail | exact hs.tail.tail | exact hs.tail.tail.tail | exact hs.tail.tail.tail.tail | exact hs.tail.tail.tail.tail.tail | exact hs.tail.tail.tail.tail.tail.tail)⟩, (hc1.out x hx).2⟩) (by omega) (fun w' hs => HB.out w' (by first | exact hs | exact hs.tail | exact hs.tail.tail | exact hs.tail.tail.tail | exact hs.tail.tail.tail.tail | exact hs.tail.tail.tail.tail.tail | exact hs.tail.tail.tail.tail.tail.tail)) (fun b hb => ⟨(hf1.out b hb).1, fun w' hs => (hf1.out b hb).2 w' (by first | exact hs | exact hs.tail | exact hs.tail.tail | exact hs.tail.tail.tail | exact hs.tail.tail.tail.tail | exact hs.tail.tail.tail.tail.tail | exact hs.tail.tail.tail.tail.tail.tail)⟩) hf2.out) ?_)); clear hw; rintro e w ⟨A5, c5, rfl, hw⟩; rw [hLL.out, hn.out]; rw [hLL.out, hn.out] at hw; (try simp only [List.set_cons_succ, List.set_cons_zero, List.setIfInBounds_toArray, Value.cells, List.eraseIdx_cons_succ, List.eraseIdx_cons_zero] at hw); refine ⟨_, rfl, ?_⟩) | (refine wk_call 9 rfl (by kernel_rfl) ?_; simp only [List.map_toArray, List.map_cons, List.map_nil, Act.eval, gd_s, gd_0]; go_must (refine (Calls.mono (rfw_All (p := p) (cs := cs) (bs := bs) hp hw (by omega) (fun w' hs => HR.out w' (by first | exact hs | exact hs.tail | exact hs.tail.tail | exact hs.tail.tail.tail | exact hs.tail.tail.tail.tail | exact hs.tail.tail.tail.tail.tail | exact hs.tail.tail.tail.tail.tail.tail)) (fun x hx => ⟨⟨(hc1.out x hx).1.1, fun w' hs => (hc1.out x hx).1.2 w' (by first | exact hs | exact hs.tail | exact hs.tail.tail | exact hs.tail.tail.tail | exact hs.tail.tail.tail.tail | exact hs.tail.tail.tail.tail.tail | exact hs.tail.tail.tail.tail.tail.tail)⟩, (hc1.out x hx).2⟩) (by omega) (fun w' hs => HB.out w' (by first | exact hs | exact hs.tail | exact hs.tail.tail | exact hs.tail.tail.tail | exact hs.tail.tail.tail.tail | exact hs.tail.tail.tail.tail.tail | exact hs.tail.tail.tail.tail.tail.tail)) (fun b hb => ⟨(hf1.out b hb).1, fun w' hs => (hf1.out b hb).2 w' (by first | exact hs | exact hs.tail | exact hs.tail.tail | exact hs.tail.tail.tail | exact hs.tail.tail.tail.tail | exact hs.tail.tail.tail.tail.tail | exact hs.tail.tail.tail.tail.tail.tail)⟩) hf2.out) ?_)); clear hw; rintro e w ⟨A6, c6, rfl, hw⟩; rw [hLL.out, hn.out]; rw [hLL.out, hn.out] at hw; (try simp only [List.set_cons_succ, List.set_cons_zero, List.setIfInBounds_toArray, Value.cells, List.eraseIdx_cons_succ, List.eraseIdx_cons_zero] at hw); refine ⟨_, rfl, ?_⟩) | (refine wk_call 7 rfl (by kernel_rfl) ?_; simp only [List.map_toArray, List.map_cons, List.map_nil, Act.eval, gd_s, gd_0]; go_must (refine (Calls.mono (rf_SameI (L := L) hn.out hn9 hw) ?_)); clear hw; rintro e w ⟨rfl, hw⟩; (try simp only [List.set_cons_succ, List.set_cons_zero, List.setIfInBounds_toArray, Value.cells, List.eraseIdx_cons_succ, List.eraseIdx_cons_zero] at hw); refine ⟨_, rfl, ?_⟩))
          refine hK.out _ _ (Sat.gets hw (by repeat (first | exact Gets.nil | exact Gets.refl _ | refine Gets.get 0 rfl ?_ | refine Gets.get 1 rfl ?_ | refine Gets.get 2 rfl ?_ | refine Gets.get 3 rfl ?_ | refine Gets.get 4 rfl ?_ | refine Gets.get 5 rfl ?_ | refine Gets.drop ?_))) (fun hS => ?_); clear hK K; try simp only [Act.put, List.setIfInBounds_toArray, List.set_cons_succ, List.set_cons_zero]
          (refine one_ (i := 8) (oi := { dst := some 51, op := Op.call { callee := Callee.value (Operand.func 7), args := #[Operand.tmp 46, Operand.tmp 50], argTypes := #[47, 47] }, type := 4, pos := "law.go:39", after := #[eD 3, eD 7, eC 7], guard := none }) (N := some 51) #[true, true, true, true, true, true, true, true, true, false] rfl rfl (by kernel_rfl) (by decide) (fun K hK => ?_); rw [if_pos (by rfl)]; first | (refine wk_call 8 rfl (by kernel_rfl) ?_; simp only [List.map_toArray, List.map_cons, List.map_nil, Act.eval, gd_s, gd_0]; go_must (refine (Calls.mono (wch_Cores (p := p) (cs := cs) (bs := bs) hw (by omega) (fun w' hs => HR.out w' (by first | exact hs | exact hs.tail | exact hs.tail.tail | exact hs.tail.tail.tail | exact hs.tail.tail.tail.tail | exact hs.tail.tail.tail.tail.tail | exact hs.tail.tail.tail.tail.tail.tail)) (fun x hx => ⟨⟨(hc1.out x hx).1.1, fun w' hs => (hc1.out x hx).1.2 w' (by first | exact hs | exact hs.tail | exact hs.tail.tail | exact hs.tail.tail.tail | exact hs.tail.tail.tail.tail | exact hs.tail.tail.tail.tail.tail | exact hs.tail.tail.tail.tail.tail.tail)⟩, (hc1.out x hx).2⟩) (by omega) (fun w' hs => HB.out w' (by first | exact hs | exact hs.tail | exact hs.tail.tail | exact hs.tail.tail.tail | exact hs.tail.tail.tail.tail | exact hs.tail.tail.tail.tail.tail | exact hs.tail.tail.tail.tail.tail.tail)) (fun b hb => ⟨(hf1.out b hb).1, fun w' hs => (hf1.out b hb).2 w' (by first | exact hs | exact hs.tail | exact hs.tail.tail | exact hs.tail.tail.tail | exact hs.tail.tail.tail.tail | exact hs.tail.tail.tail.tail.tail | exact hs.tail.tail.tail.tail.tail.tail)⟩) hf2.out) ?_)); clear hw; rintro e w ⟨A5, c5, rfl, hw⟩; rw [hLL.out, hn.out]; rw [hLL.out, hn.out] at hw; (try simp only [List.set_cons_succ, List.set_cons_zero, List.setIfInBounds_toArray, Value.cells, List.eraseIdx_cons_succ, List.eraseIdx_cons_zero] at hw); refine ⟨_, rfl, ?_⟩) | (refine wk_call 9 rfl (by kernel_rfl) ?_; simp only [List.map_toArray, List.map_cons, List.map_nil, Act.eval, gd_s, gd_0]; go_must (refine (Calls.mono (rfw_All (p := p) (cs := cs) (bs := bs) hp hw (by omega) (fun w' hs => HR.out w' (by first | exact hs | exact hs.tail | exact hs.tail.tail | exact hs.tail.tail.tail | exact hs.tail.tail.tail.tail | exact hs.tail.tail.tail.tail.tail | exact hs.tail.tail.tail.tail.tail.tail)) (fun x hx => ⟨⟨(hc1.out x hx).1.1, fun w' hs => (hc1.out x hx).1.2 w' (by first | exact hs | exact hs.tail | exact hs.tail.tail | exact hs.tail.tail.tail | exact hs.tail.tail.tail.tail | exact hs.tail.tail.tail.tail.tail | exact hs.tail.tail.tail.tail.tail.tail)⟩, (hc1.out x hx).2⟩) (by omega) (fun w' hs => HB.out w' (by first | exact hs | exact hs.tail | exact hs.tail.tail | exact hs.tail.tail.tail | exact hs.tail.tail.tail.tail | exact hs.tail.tail.tail.tail.tail | exact hs.tail.tail.tail.tail.tail.tail)) (fun b hb => ⟨(hf1.out b hb).1, fun w' hs => (hf1.out b hb).2 w' (by first | exact hs | exact hs.tail | exact hs.tail.tail | exact hs.tail.tail.tail | exact hs.tail.tail.tail.tail | exact hs.tail.tail.tail.tail.tail | exact hs.tail.tail.tail.tail.tail.tail)⟩) hf2.out) ?_)); clear hw; rintro e w ⟨A6, c6, rfl, hw⟩; rw [hLL.out, hn.out]; rw [hLL.out, hn.out] at hw; (try simp only [List.set_cons_succ, List.set_cons_zero, List.setIfInBounds_toArray, Value.cells, List.eraseIdx_cons_succ, List.eraseIdx_cons_zero] at hw); refine ⟨_, rfl, ?_⟩) | (refine wk_call 7 rfl (by kernel_rfl) ?_; simp only [List.map_toArray, List.map_cons, List.map_nil, Act.eval, gd_s, gd_0]; go_must (refine (Calls.mono (rf_SameI (L := L) hn.out hn9 hw) ?_)); clear hw; rintro e w ⟨rfl, hw⟩; (try simp only [List.set_cons_succ, List.set_cons_zero, List.setIfInBounds_toArray, Value.cells, List.eraseIdx_cons_succ, List.eraseIdx_cons_zero] at hw); refine ⟨_, rfl, ?_⟩))
          refine hK.out _ _ (Sat.gets hw (by repeat (first | exact Gets.nil | exact Gets.refl _ | refine Gets.get 0 rfl ?_ | refine Gets.get 1 rfl ?_ | refine Gets.get 2 rfl ?_ | refine Gets.get 3 rfl ?_ | refine Gets.get 4 rfl ?_ | refine Gets.get 5 rfl ?_ | refine Gets.drop ?_))) (fun hS => ?_); clear hK K; try simp only [Act.put, List.setIfInBounds_toArray, List.set_cons_succ, List.set_cons_zero]
          (refine pureE (i := 9) (oi := { dst := some 6, op := Op.assign (Operand.tmp 51), type := 4, pos := "law.go:39", after := #[eD 8, eC 8, eP 0, eP 1, eP 2, eP 3, eP 4, eP 5, eP 6, eP 7, eP 8], guard := none }) (N := some 6) #[true, true, true, true, true, true, true, true, true, true] rfl rfl (by kernel_rfl) (fun _ _ _ _ h => h) ?_; apply Exists.intro; refine ⟨Or.inl ⟨by rfl, ?_⟩, ?_⟩; · (intro w0; go_simp; try with_reducible rfl))
          try simp only [Act.put, List.setIfInBounds_toArray, List.set_cons_succ, List.set_cons_zero]
          refine done_ (by kernel_rfl) ?_; clear hS
          go_wp2
          go_ret
          exact ⟨rfl, (Sat.gets hw (by repeat (first | exact Gets.nil | exact Gets.refl _ | refine Gets.get 0 rfl ?_ | refine Gets.get 1 rfl ?_ | refine Gets.get 2 rfl ?_ | refine Gets.get 3 rfl ?_ | refine Gets.get 4 rfl ?_ | refine Gets.get 5 rfl ?_ | refine Gets.drop ?_)))⟩
end
end Go.Proofs.Ytklhmlplabkoeaa
