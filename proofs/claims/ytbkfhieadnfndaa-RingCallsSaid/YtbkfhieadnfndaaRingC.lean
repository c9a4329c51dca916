/- The law RingCalls: any calls to any queue are answered as the document says. Conditions: none. -/
import Derived.Test.YtbkfhieadnfndaaRingF
import Derived.Deep.Cut
import Derived.Deep.CutRange
set_option linter.unusedVariables false
set_option linter.unusedSimpArgs false
namespace Go.Proofs.Ytbkfhieadnfndaa
open Go.RowKit Go.Bst
attribute [local irreducible] wpList Calls Code.wp Code.wpN Oper.wp Go.Proofs.YtbkfhieadnfndaaW.PrintLast.wpAnyLast

def callK : List SK := .bool :: msgK
theorem call_kinds : skinds Try.prog 9 42 = some callK := by kernel_rfl
theorem u_calls : Try.prog.underlying 38 = some (.slice 42) := by kernel_rfl
theorem call_size : (Try.prog.info? 42).map (·.size) = some 39 := by kernel_rfl
theorem call_agg : aggSize Try.prog 42 = some 39 := by kernel_rfl
def call0 : Array Value := #[.bool false] ++ msg0
theorem call_zero : zeroOf Try.prog 42 = some (.agg call0) := by kernel_rfl
theorem call0_size : call0.size = 39 := rfl
theorem Call.form {cs : Array Value} (h : fitAll callK cs.toList) : ∃ t m, cs = #[.bool t] ++ m ∧ Msg m := by
  obtain ⟨l⟩ := cs
  cases l with
  | nil => exact h.elim
  | cons v l =>
    obtain ⟨⟨t, rfl⟩, h2⟩ := h
    exact ⟨t, ⟨l⟩, by simp, h2⟩
theorem rn_blkO {P : Program} {w : World} {o : Oper} {a : Act} {ty : TypeId} {x : Operand} {b k : Nat} {u m : Array Value} {T : TypeId} {fr : Nat × Nat} (ho : o.op = .load ty x) (hx : a.eval x = .pointer (some ⟨b, k, none⟩)) (hk : u.size = k) (ht : aggSize P ty = some m.size)
    (hg : w.heap[b]? = some (.cells (u ++ m) T fr)) : (execOp a.eval o).run P w = .ok (.value (.agg m)) w := rn_load_agg ho hx ht (fun j v hv => by
      rw [add_at, cell_of_row w b (k + j) _ T fr hg]
      subst hk
      rw [Array.getElem?_append_right (by omega), Nat.add_sub_cancel_left]; simpa using hv)
theorem wl_neq {P : Program} {ops : Array Oper} {Q : Exit → Act → World → Prop} {rest : List Oper} {dd : Option Tmp} {tt : TypeId} {pos : String} {after : Array Edge} {a : Act} {w : World} {x y : Operand} {yt : TypeId} {d : Nat} {t : TypeId} {ks : List SK}
    (xs ys : Array Value) (e1 : a.eval x = .agg xs) (e2 : a.eval y = .agg ys) (h : skinds P d t = some ks) (hd : d ≤ 10000) (ha : aggSize P t ≠ none) (hg : P.eqGuardType P.depth t = false) (hx : fitAll ks xs.toList) (hy : fitAll ks ys.toList)
    (b : Bool) (hb : (!same xs ys) = b) (hk : wpList P ops Q rest (a.put dd (.bool b)) w) : wpList P ops Q ({ dst := dd, op := .binOp .neq t x y yt, type := tt, pos := pos, after := after, guard := none } :: rest) a w := by
  subst hb; exact wl_run (rn_neq_agg rfl xs ys e1 e2 h hd ha hg hx hy) hk

set_option maxRecDepth 1000000 in
set_option maxHeartbeats 4000000 in
theorem ring_calls {W : World} {room : Int} {v : Value} {l : List (Array Value)} (hr : Rd W 39 v l.length (flat l)) (hm : ∀ c ∈ l, fitAll callK c.toList) :
    Calls Try.prog 5 #[.int .i64 room, v] W fun e w' => e = .returned (.bool true) ∧ Sat (World.env W) w' [Old W] := by
  obtain ⟨A, cap, rfl, hcap⟩ := hr.form
  have hw : Sat (World.env W) W [Old W] := Sat.init W
  by_cases hlen : 100 < l.length
  · have hlen' : (100 : Int) < (l.length : Int) := by omega
    go_enter Try.func5, Try.ntmps5
    go_wp2_with (go_at_call 12; refine (ring_speaks hw).mono ?_; clear hw; rintro e w ⟨rfl, hw⟩)
    go_ret
    exact ⟨rfl, hw⟩
  · obtain ⟨R, hR⟩ : ∃ R, R = (min (max room 0) 4096).toNat := ⟨_, rfl⟩
    have HR := Kp.mk hR
    have hR0 : R ≤ 4096 := by omega
    have hn : (room < 0 ∧ (R : Int) = 0) ∨ (0 ≤ room ∧ room ≤ 4096 ∧ (R : Int) = room) ∨ (4096 < room ∧ (R : Int) = 4096) := by omega
    have HN := Kp.mk hn
    clear hR hn
    have HM := Kp.mk hm
    clear hm
    have hll : l.length ≤ 100 := by omega
    go_enter Try.func5, Try.ntmps5
    go_wp2_with (first
      | (go_at_call 12; refine (ring_speaks hw).mono ?_; clear hw; rintro e w ⟨rfl, hw⟩)
      | (go_at_call 13; refine (ring_new hw).mono ?_; clear hw; rintro e w ⟨q, rfl, hw⟩; rw [← HR.out] at hw)
      | (go_at_call 20; refine (ref_new_at hw (R : Int) (by omega) (by omega) HN.out).mono ?_; clear hw; rintro e w ⟨r, rfl, hw⟩; rw [Int.toNat_natCast] at hw))
    have hw := hw.front 1 rfl
    (try simp only [List.set_cons_succ, List.set_cons_zero, List.setIfInBounds_toArray, Value.cells, List.eraseIdx_cons_succ, List.eraseIdx_cons_zero] at hw)
    go_loopw [26] (fun i wr => ∃ k : Nat, k ≤ l.length ∧ i = .int .i64 k ∧ ∃ L, Sat (World.env W) wr [Queue q R L, RefQ r R L, Old W]) (fun i _ => l.length - (intOf i).toNat)
    case atStart => exact ⟨0, by omega, rfl, [], hw⟩
    case round =>
      clear hw
      obtain ⟨k, hk, rfl, L, hw⟩ := hrel
      by_cases hlt : k < l.length
      · obtain ⟨cs, hcs0⟩ : ∃ cs, l[k]? = some cs := ⟨_, List.getElem?_eq_getElem hlt⟩
        obtain ⟨t, m, hc, hmm⟩ := Call.form (HM.out cs (List.mem_of_getElem? hcs0))
        have hms := hmm.size
        have hmo := hmm.one
        obtain ⟨ad, rfl, hca⟩ := (hr.sub (hw.subOld 2 rfl)).addr (by omega)
        have ca := Kp.mk (cells_at (sz := 39) hca (fun x hx => by have := fitAll_len (HM.out x hx); rw [show callK.length = 39 from rfl] at this; simpa using this) hcs0)
        have hlt' : (k : Int) < (l.length : Int) := by omega
        have hk0 : (k : Int) + 1 ≤ 9223372036854775807 := by omega
        have hcs : cs.size = 39 := by rw [hc, Array.size_append, hms]; rfl
        have hco : cs.all (·.oneCell') = true := by have := fitAll_one (HM.out cs (List.mem_of_getElem? hcs0)); simpa using this
        have hc1 : cs[0]? = some (.bool t) := by rw [hc, Array.getElem?_append_left (Nat.lt_succ_self 0)]; rfl
        have hcm := Kp.mk hc
        clear hca hc hcs0
        go_upto_if 31 with (first
          | (refine wl_ldA (m := cs) (ad := ad.add (k * 39)) rfl (by rw [call_agg, hcs]) ca.out ?_)
          | (refine wl_alloc hw call_zero ?_; clear hw; intro b w hw; (try simp only [List.set_cons_succ, List.set_cons_zero, List.setIfInBounds_toArray, Value.cells, List.eraseIdx_cons_succ, List.eraseIdx_cons_zero] at hw))
          | (refine wl_store_all (vs := cs) hw rfl 0 rfl rfl (by rw [call_size, hcs]) (by simp only [hcs, call0_size]) hco ?_; clear hw; intro w hw; (try simp only [List.set_cons_succ, List.set_cons_zero, List.setIfInBounds_toArray, Value.cells, List.eraseIdx_cons_succ, List.eraseIdx_cons_zero] at hw))
          | (refine wl_load1 hw rfl 0 rfl (by kernel_rfl) (v := .bool t) hc1 ?_))
        simp only [Act.put, List.setIfInBounds_toArray, List.set_cons_succ, List.set_cons_zero]
        go_cut [] from 27 to 134 (fun wc => ∃ L, Sat (World.env W) wc [Queue q R L, RefQ r R L, Old W])
        case first =>
          cases t with
          | true =>
            cases L with
            | nil =>
              have hs := Kp.mk (show (!same msg0 msg0) = false by rw [same_self]; rfl)
              go_wp2_with (first
                | (go_at_call 16; go_must (refine (ring_take_none (hw.front 1 rfl)).mono ?_); clear hw; rintro e w ⟨rfl, hw⟩; (try simp only [List.set_cons_succ, List.set_cons_zero, List.setIfInBounds_toArray, Value.cells, List.eraseIdx_cons_succ, List.eraseIdx_cons_zero] at hw))
                | (go_at_call 21; go_must (refine (ref_take_none (hw.front 3 rfl)).mono ?_); clear hw; rintro e w ⟨rfl, hw⟩; (try simp only [List.set_cons_succ, List.set_cons_zero, List.setIfInBounds_toArray, Value.cells, List.eraseIdx_cons_succ, List.eraseIdx_cons_zero] at hw))
                | (refine wl_alloc hw msg_zero ?_; clear hw; intro b1 w hw; (try simp only [List.set_cons_succ, List.set_cons_zero, List.setIfInBounds_toArray, Value.cells, List.eraseIdx_cons_succ, List.eraseIdx_cons_zero] at hw))
                | (refine wl_store_all (vs := msg0) hw rfl 0 rfl rfl msg_size rfl (Msg.one msg0_ok) ?_; clear hw; intro w hw; (try simp only [List.set_cons_succ, List.set_cons_zero, List.setIfInBounds_toArray, Value.cells, List.eraseIdx_cons_succ, List.eraseIdx_cons_zero] at hw))
                | (refine wl_load_all hw rfl 0 rfl msg_agg ?_)
                | (refine wl_load_all hw rfl 2 rfl msg_agg ?_)
                | (refine wl_neq msg0 msg0 rfl rfl msg_kinds (by omega) (by rw [msg_agg]; simp) (by kernel_rfl) msg0_ok msg0_ok _ hs.out ?_))
              go_meet
              case rel => exact ⟨[], (((hw.del 0 rfl).del 1 rfl).del 2 rfl).front 1 rfl⟩
            | cons m1 L =>
              have h1 := (Queue_open (hw.front 1 rfl)).1.2.2 m1 (by simp)
              have h1s := h1.size
              have h1o := h1.one
              have hs := Kp.mk (show (!same m1 m1) = false by rw [same_self]; rfl)
              go_wp2_with (first
                | (go_at_call 16; go_must (refine (ring_take (hw.front 1 rfl)).mono ?_); clear hw; rintro e w ⟨rfl, hw⟩; (try simp only [List.set_cons_succ, List.set_cons_zero, List.setIfInBounds_toArray, Value.cells, List.eraseIdx_cons_succ, List.eraseIdx_cons_zero] at hw))
                | (go_at_call 21; go_must (refine (ref_take (hw.front 3 rfl)).mono ?_); clear hw; rintro e w ⟨rfl, hw⟩; (try simp only [List.set_cons_succ, List.set_cons_zero, List.setIfInBounds_toArray, Value.cells, List.eraseIdx_cons_succ, List.eraseIdx_cons_zero] at hw))
                | (refine wl_alloc hw msg_zero ?_; clear hw; intro b1 w hw; (try simp only [List.set_cons_succ, List.set_cons_zero, List.setIfInBounds_toArray, Value.cells, List.eraseIdx_cons_succ, List.eraseIdx_cons_zero] at hw))
                | (refine wl_store_all (vs := m1) hw rfl 0 rfl rfl (by rw [msg_size, h1s]) (by simp only [h1s, msg0_size]) h1o ?_; clear hw; intro w hw; (try simp only [List.set_cons_succ, List.set_cons_zero, List.setIfInBounds_toArray, Value.cells, List.eraseIdx_cons_succ, List.eraseIdx_cons_zero] at hw))
                | (refine wl_load_all hw rfl 0 rfl (by rw [msg_agg, h1s]) ?_)
                | (refine wl_load_all hw rfl 2 rfl (by rw [msg_agg, h1s]) ?_)
                | (refine wl_neq m1 m1 rfl rfl msg_kinds (by omega) (by rw [msg_agg]; simp) (by kernel_rfl) h1 h1 _ hs.out ?_))
              go_meet
              case rel => exact ⟨L, (((hw.del 0 rfl).del 1 rfl).del 2 rfl).front 1 rfl⟩
          | false =>
            have hq := (Queue_open (hw.front 1 rfl)).1
            have hLR := hq.1
            clear hq
            by_cases hfu : L.length = R
            · go_wp2
              refine Go.Proofs.YtbkfhieadnfndaaW.PrintLast.start_ (S := (fun w' => w'.heap[b]? = some (.cells (#[.bool false] ++ m) 42 (0, 0)))) (ds := []) #[false, false, false, false, false, false, false, false, false] (by kernel_rfl) rfl (by rfl) ?_ (fun hS => ?_)
              · exact by rw [← hcm.out]; exact hw.drew.read 0 rfl
              replace hw := hw.drew; generalize w.drew = w at hw hS ⊢
              refine pureE (i := 0) (oi := { dst := some 50, op := Op.move (Operand.tmp 5), type := 24, pos := "law.go:41", after := #[], guard := none }) (N := some 50) #[true, false, false, false, false, false, false, false, false] rfl rfl (by kernel_rfl) (fun _ _ _ _ h => h) ?_
              apply Exists.intro
              refine ⟨Or.inl ⟨by rfl, ?_⟩, ?_⟩
              · intro w0; go_simp; try with_reducible rfl
              try simp only [Act.put, List.setIfInBounds_toArray, List.set_cons_succ, List.set_cons_zero]
              refine pureE (i := 1) (oi := { dst := some 51, op := Op.fieldAddr 42 (Operand.tmp 8) 1, type := 0, pos := "law.go:41", after := #[], guard := none }) (N := some 51) #[true, true, false, false, false, false, false, false, false] rfl rfl (by kernel_rfl) (fun _ _ _ _ h => h) ?_
              apply Exists.intro
              refine ⟨Or.inl ⟨by rfl, ?_⟩, ?_⟩
              · intro w0; go_simp; try with_reducible rfl
              try simp only [Act.put, List.setIfInBounds_toArray, List.set_cons_succ, List.set_cons_zero]
              refine pureE (i := 4) (oi := { dst := some 54, op := Op.move (Operand.tmp 6), type := 39, pos := "law.go:41", after := #[], guard := none }) (N := some 54) #[true, true, false, false, true, false, false, false, false] rfl rfl (by kernel_rfl) (fun _ _ _ _ h => h) ?_
              apply Exists.intro
              refine ⟨Or.inl ⟨by rfl, ?_⟩, ?_⟩
              · intro w0; go_simp; try with_reducible rfl
              try simp only [Act.put, List.setIfInBounds_toArray, List.set_cons_succ, List.set_cons_zero]
              refine pureE (i := 5) (oi := { dst := some 55, op := Op.fieldAddr 42 (Operand.tmp 8) 1, type := 0, pos := "law.go:41", after := #[], guard := none }) (N := some 55) #[true, true, false, false, true, true, false, false, false] rfl rfl (by kernel_rfl) (fun _ _ _ _ h => h) ?_
              apply Exists.intro
              refine ⟨Or.inl ⟨by rfl, ?_⟩, ?_⟩
              · intro w0; go_simp; try with_reducible rfl
              try simp only [Act.put, List.setIfInBounds_toArray, List.set_cons_succ, List.set_cons_zero]
              refine takeE (i := 2) (oi := { dst := some 52, op := Op.load 31 (Operand.tmp 51), type := 31, pos := "law.go:41", after := #[{ on := 1, ground := Ground.data }], guard := none }) (N := some 52) #[true, true, true, false, true, true, false, false, false] rfl rfl (by kernel_rfl) (fun _ _ _ _ h => h) hS ?_
              apply Exists.intro
              refine ⟨Or.inl ⟨by rfl, fun w0 h => rn_blkO rfl rfl rfl (by rw [msg_agg, hms]) h⟩, ?_⟩
              try simp only [Act.put, List.setIfInBounds_toArray, List.set_cons_succ, List.set_cons_zero]
              refine takeE (i := 6) (oi := { dst := some 56, op := Op.load 31 (Operand.tmp 55), type := 31, pos := "law.go:41", after := #[{ on := 5, ground := Ground.data }], guard := none }) (N := some 56) #[true, true, true, false, true, true, true, false, false] rfl rfl (by kernel_rfl) (fun _ _ _ _ h => h) hS ?_
              apply Exists.intro
              refine ⟨Or.inl ⟨by rfl, fun w0 h => rn_blkO rfl rfl rfl (by rw [msg_agg, hms]) h⟩, ?_⟩
              try simp only [Act.put, List.setIfInBounds_toArray, List.set_cons_succ, List.set_cons_zero]
              refine Go.Proofs.YtbkfhieadnfndaaW.PrintLast.one_ (i := 3) (oi := { dst := some 53, op := Op.call { callee := Callee.value (Operand.func 14), args := #[Operand.tmp 50, Operand.tmp 52], argTypes := #[24, 31] }, type := 26, pos := "law.go:41", after := #[{ on := 0, ground := Ground.data }, { on := 2, ground := Ground.data }], guard := none }) (N := some 53) #[true, true, true, true, true, true, true, false, false] rfl rfl (by kernel_rfl) (by decide) (fun K hK => ?_)
              rw [if_pos (by rfl)]
              refine wk_enter 14 #[.pointer (some ⟨q, 0, none⟩), .agg m] ?_ ?_
              · go_simp
              refine (ring_put_full (hw.front 1 rfl) hmm (by omega)).mono ?_
              clear hw; rintro e w ⟨rfl, hw⟩; (try simp only [List.set_cons_succ, List.set_cons_zero, List.setIfInBounds_toArray, Value.cells, List.eraseIdx_cons_succ, List.eraseIdx_cons_zero] at hw)
              refine ⟨_, rfl, ?_⟩
              refine hK.out _ _ (by rw [← hcm.out]; exact hw.read 1 rfl) (fun hS => ?_); clear hK K; try simp only [Act.put, List.setIfInBounds_toArray, List.set_cons_succ, List.set_cons_zero]
              refine Go.Proofs.YtbkfhieadnfndaaW.PrintLast.one_ (i := 7) (oi := { dst := some 57, op := Op.call { callee := Callee.value (Operand.func 22), args := #[Operand.tmp 54, Operand.tmp 56], argTypes := #[39, 31] }, type := 3, pos := "law.go:41", after := #[{ on := 4, ground := Ground.data }, { on := 6, ground := Ground.data }, { on := 3, ground := Ground.chain }], guard := none }) (N := some 57) #[true, true, true, true, true, true, true, true, false] rfl rfl (by kernel_rfl) (by decide) (fun K hK => ?_)
              rw [if_pos (by rfl)]
              refine wk_enter 22 #[.pointer (some ⟨r, 0, none⟩), .agg m] ?_ ?_
              · go_simp
              refine (ref_put_full (hw.front 2 rfl) hmm (by omega)).mono ?_
              clear hw; rintro e w ⟨rfl, hw⟩; (try simp only [List.set_cons_succ, List.set_cons_zero, List.setIfInBounds_toArray, Value.cells, List.eraseIdx_cons_succ, List.eraseIdx_cons_zero] at hw)
              refine ⟨_, rfl, ?_⟩
              refine hK.out _ _ (by rw [← hcm.out]; exact hw.read 2 rfl) (fun hS => ?_); clear hK K; try simp only [Act.put, List.setIfInBounds_toArray, List.set_cons_succ, List.set_cons_zero]
              refine pureE (i := 8) (oi := { dst := some 58, op := Op.binOp BinOp.neq 3 (Operand.tmp 53) (Operand.tmp 57) 3, type := 4, pos := "law.go:41", after := #[{ on := 3, ground := Ground.data }, { on := 7, ground := Ground.data }], guard := none }) (N := some 58) #[true, true, true, true, true, true, true, true, true] rfl rfl (by kernel_rfl) (fun _ _ _ _ h => h) ?_
              apply Exists.intro
              refine ⟨Or.inl ⟨by rfl, ?_⟩, ?_⟩
              · intro w0; go_simp; try with_reducible rfl
              try simp only [Act.put, List.setIfInBounds_toArray, List.set_cons_succ, List.set_cons_zero]
              refine Go.Proofs.YtbkfhieadnfndaaW.PrintLast.done_ (by kernel_rfl) ?_; clear hS
              go_wp2
              go_meet
              case rel => exact ⟨_, (hw.del 2 rfl).front 1 rfl⟩
            · have hfu' : L.length < R := by omega
              go_wp2
              refine Go.Proofs.YtbkfhieadnfndaaW.PrintLast.start_ (S := (fun w' => w'.heap[b]? = some (.cells (#[.bool false] ++ m) 42 (0, 0)))) (ds := []) #[false, false, false, false, false, false, false, false, false] (by kernel_rfl) rfl (by rfl) ?_ (fun hS => ?_)
              · exact by rw [← hcm.out]; exact hw.drew.read 0 rfl
              replace hw := hw.drew; generalize w.drew = w at hw hS ⊢
              refine pureE (i := 0) (oi := { dst := some 50, op := Op.move (Operand.tmp 5), type := 24, pos := "law.go:41", after := #[], guard := none }) (N := some 50) #[true, false, false, false, false, false, false, false, false] rfl rfl (by kernel_rfl) (fun _ _ _ _ h => h) ?_
              apply Exists.intro
              refine ⟨Or.inl ⟨by rfl, ?_⟩, ?_⟩
              · intro w0; go_simp; try with_reducible rfl
              try simp only [Act.put, List.setIfInBounds_toArray, List.set_cons_succ, List.set_cons_zero]
              refine pureE (i := 1) (oi := { dst := some 51, op := Op.fieldAddr 42 (Operand.tmp 8) 1, type := 0, pos := "law.go:41", after := #[], guard := none }) (N := some 51) #[true, true, false, false, false, false, false, false, false] rfl rfl (by kernel_rfl) (fun _ _ _ _ h => h) ?_
              apply Exists.intro
              refine ⟨Or.inl ⟨by rfl, ?_⟩, ?_⟩
              · intro w0; go_simp; try with_reducible rfl
              try simp only [Act.put, List.setIfInBounds_toArray, List.set_cons_succ, List.set_cons_zero]
              refine pureE (i := 4) (oi := { dst := some 54, op := Op.move (Operand.tmp 6), type := 39, pos := "law.go:41", after := #[], guard := none }) (N := some 54) #[true, true, false, false, true, false, false, false, false] rfl rfl (by kernel_rfl) (fun _ _ _ _ h => h) ?_
              apply Exists.intro
              refine ⟨Or.inl ⟨by rfl, ?_⟩, ?_⟩
              · intro w0; go_simp; try with_reducible rfl
              try simp only [Act.put, List.setIfInBounds_toArray, List.set_cons_succ, List.set_cons_zero]
              refine pureE (i := 5) (oi := { dst := some 55, op := Op.fieldAddr 42 (Operand.tmp 8) 1, type := 0, pos := "law.go:41", after := #[], guard := none }) (N := some 55) #[true, true, false, false, true, true, false, false, false] rfl rfl (by kernel_rfl) (fun _ _ _ _ h => h) ?_
              apply Exists.intro
              refine ⟨Or.inl ⟨by rfl, ?_⟩, ?_⟩
              · intro w0; go_simp; try with_reducible rfl
              try simp only [Act.put, List.setIfInBounds_toArray, List.set_cons_succ, List.set_cons_zero]
              refine takeE (i := 2) (oi := { dst := some 52, op := Op.load 31 (Operand.tmp 51), type := 31, pos := "law.go:41", after := #[{ on := 1, ground := Ground.data }], guard := none }) (N := some 52) #[true, true, true, false, true, true, false, false, false] rfl rfl (by kernel_rfl) (fun _ _ _ _ h => h) hS ?_
              apply Exists.intro
              refine ⟨Or.inl ⟨by rfl, fun w0 h => rn_blkO rfl rfl rfl (by rw [msg_agg, hms]) h⟩, ?_⟩
              try simp only [Act.put, List.setIfInBounds_toArray, List.set_cons_succ, List.set_cons_zero]
              refine takeE (i := 6) (oi := { dst := some 56, op := Op.load 31 (Operand.tmp 55), type := 31, pos := "law.go:41", after := #[{ on := 5, ground := Ground.data }], guard := none }) (N := some 56) #[true, true, true, false, true, true, true, false, false] rfl rfl (by kernel_rfl) (fun _ _ _ _ h => h) hS ?_
              apply Exists.intro
              refine ⟨Or.inl ⟨by rfl, fun w0 h => rn_blkO rfl rfl rfl (by rw [msg_agg, hms]) h⟩, ?_⟩
              try simp only [Act.put, List.setIfInBounds_toArray, List.set_cons_succ, List.set_cons_zero]
              refine Go.Proofs.YtbkfhieadnfndaaW.PrintLast.one_ (i := 3) (oi := { dst := some 53, op := Op.call { callee := Callee.value (Operand.func 14), args := #[Operand.tmp 50, Operand.tmp 52], argTypes := #[24, 31] }, type := 26, pos := "law.go:41", after := #[{ on := 0, ground := Ground.data }, { on := 2, ground := Ground.data }], guard := none }) (N := some 53) #[true, true, true, true, true, true, true, false, false] rfl rfl (by kernel_rfl) (by decide) (fun K hK => ?_)
              rw [if_pos (by rfl)]
              refine wk_enter 14 #[.pointer (some ⟨q, 0, none⟩), .agg m] ?_ ?_
              · go_simp
              refine (ring_put (hw.front 1 rfl) hmm (by omega)).mono ?_
              clear hw; rintro e w ⟨rfl, hw⟩; (try simp only [List.set_cons_succ, List.set_cons_zero, List.setIfInBounds_toArray, Value.cells, List.eraseIdx_cons_succ, List.eraseIdx_cons_zero] at hw)
              refine ⟨_, rfl, ?_⟩
              refine hK.out _ _ (by rw [← hcm.out]; exact hw.read 1 rfl) (fun hS => ?_); clear hK K; try simp only [Act.put, List.setIfInBounds_toArray, List.set_cons_succ, List.set_cons_zero]
              refine Go.Proofs.YtbkfhieadnfndaaW.PrintLast.one_ (i := 7) (oi := { dst := some 57, op := Op.call { callee := Callee.value (Operand.func 22), args := #[Operand.tmp 54, Operand.tmp 56], argTypes := #[39, 31] }, type := 3, pos := "law.go:41", after := #[{ on := 4, ground := Ground.data }, { on := 6, ground := Ground.data }, { on := 3, ground := Ground.chain }], guard := none }) (N := some 57) #[true, true, true, true, true, true, true, true, false] rfl rfl (by kernel_rfl) (by decide) (fun K hK => ?_)
              rw [if_pos (by rfl)]
              refine wk_enter 22 #[.pointer (some ⟨r, 0, none⟩), .agg m] ?_ ?_
              · go_simp
              refine (ref_put (hw.front 2 rfl) hmm (by omega)).mono ?_
              clear hw; rintro e w ⟨rfl, hw⟩; (try simp only [List.set_cons_succ, List.set_cons_zero, List.setIfInBounds_toArray, Value.cells, List.eraseIdx_cons_succ, List.eraseIdx_cons_zero] at hw)
              refine ⟨_, rfl, ?_⟩
              refine hK.out _ _ (by rw [← hcm.out]; exact hw.read 2 rfl) (fun hS => ?_); clear hK K; try simp only [Act.put, List.setIfInBounds_toArray, List.set_cons_succ, List.set_cons_zero]
              refine pureE (i := 8) (oi := { dst := some 58, op := Op.binOp BinOp.neq 3 (Operand.tmp 53) (Operand.tmp 57) 3, type := 4, pos := "law.go:41", after := #[{ on := 3, ground := Ground.data }, { on := 7, ground := Ground.data }], guard := none }) (N := some 58) #[true, true, true, true, true, true, true, true, true] rfl rfl (by kernel_rfl) (fun _ _ _ _ h => h) ?_
              apply Exists.intro
              refine ⟨Or.inl ⟨by rfl, ?_⟩, ?_⟩
              · intro w0; go_simp; try with_reducible rfl
              try simp only [Act.put, List.setIfInBounds_toArray, List.set_cons_succ, List.set_cons_zero]
              refine Go.Proofs.YtbkfhieadnfndaaW.PrintLast.done_ (by kernel_rfl) ?_; clear hS
              go_wp2
              go_meet
              case rel => exact ⟨_, (hw.del 2 rfl).front 1 rfl⟩
        case rest =>
          clear hw
          obtain ⟨L, hw⟩ := hcut
          cases L with
          | nil =>
            go_wp2_with (first
              | (go_at_call 23; go_must (refine (ring_first_none hw).mono ?_); clear hw; rintro e w ⟨rfl, hw⟩)
              | (refine wl_alloc hw msg_zero ?_; clear hw; intro b3 w hw; (try simp only [List.set_cons_succ, List.set_cons_zero, List.setIfInBounds_toArray, Value.cells, List.eraseIdx_cons_succ, List.eraseIdx_cons_zero] at hw))
              | (refine wl_store_all (vs := msg0) hw rfl 0 rfl rfl msg_size rfl (Msg.one msg0_ok) ?_; clear hw; intro w hw; (try simp only [List.set_cons_succ, List.set_cons_zero, List.setIfInBounds_toArray, Value.cells, List.eraseIdx_cons_succ, List.eraseIdx_cons_zero] at hw)))
            obtain ⟨hq, v0, hw⟩ := RefQ_open (hw.front 2 rfl)
            obtain ⟨A0, c0, rfl, hc0, hg0⟩ := Row_val hw 1 rfl
            clear hc0 
            obtain ⟨n, hn⟩ : ∃ n : Nat, n = ([] : List (Array Value)).length := ⟨_, rfl⟩
            have N := Kp.mk hn
            rw [← N.out] at hw hg0
            have hnR : n ≤ R := by rw [hn]; exact hq.1
            have hn0 : ((n : Int) == 0) = true := by rw [hn]; rfl
            have hn1 : decide (0 < n) = false := by rw [hn]; rfl
            have hn2 : decide ((0 : Int) < (n : Int)) = false := by rw [hn]; rfl
            clear hn hg0
            have d0 : w.cell? ⟨r, 0, none⟩ = some (.slice A0 n c0) := cell_of_row _ _ _ _ _ _ (hw.read 0 rfl)
            have d1 : w.cell? ⟨r, 1, none⟩ = some (.int .i64 R) := cell_of_row _ _ _ _ _ _ (hw.read 0 rfl)
            have cb3 := Kp.mk (blk_cells hw 2 rfl)
            have hs := Kp.mk (show (!same msg0 msg0) = false by rw [same_self]; rfl)
            (refine wp_region_quiet_lit (by kernel_rfl) (by kernel_rfl) ?_; (repeat (first | go_big_quiet_skip | (go_big_quiet_want; (first | (refine qk_ldA (m := msg0) (ad := ⟨b3, 0, none⟩) rfl rfl msg_agg cb3.out ?_; simp only [Act.put, List.setIfInBounds_toArray, List.set_cons_succ, List.set_cons_zero]) | (refine qk_neq rfl msg0 msg0 rfl rfl msg_kinds (by omega) (by rw [msg_agg]; simp) (by kernel_rfl) msg0_ok msg0_ok _ hs.out ?_; simp only [Act.put, List.setIfInBounds_toArray, List.set_cons_succ, List.set_cons_zero]) | go_big_quiet_op); go_big_quiet_on))); refine wpQuiet_nil ?_; rintro _ ⟨nq, rfl⟩)
            have hw := hw.drewN nq
            clear d0 d1 cb3
            generalize w.drewN nq = w at hw ⊢
            go_wp2
            clear hn0 hn1 hn2
            obtain ⟨d, hd⟩ : ∃ d : Int, d = R - n := ⟨_, rfl⟩
            have D := Kp.mk hd
            have hne : (d != IntKind.i64.wrap ((R : Int) - n)) = false := by rw [IntWalk.i64_in _ ⟨by omega, by omega⟩, bne_eq_false_iff_eq]; exact hd
            clear hd
            have HQ := Kp.mk hq
            clear hq
            refine Go.Proofs.YtbkfhieadnfndaaW.PrintLast.start_ (S := (fun w' => w'.heap[r]? = some (.cells #[.slice A0 n c0, .int .i64 R] 47 (0, 0)))) (ds := []) #[false, false, false, false, false, false, false, false, false, false, false, false, false, false, false, false, false, false, false, false, false, false, false, false, false, false, false, false, false, false, false, false, false] (by kernel_rfl) rfl (by rfl) ?_ (fun hS => ?_)
            · exact hw.drew.read 0 rfl
            replace hw := hw.drew; generalize w.drew = w at hw hS ⊢
            refine pureE (i := 0) (oi := { dst := some 101, op := Op.move (Operand.tmp 5), type := 24, pos := "law.go:48", after := #[], guard := none }) (N := some 101) #[true, false, false, false, false, false, false, false, false, false, false, false, false, false, false, false, false, false, false, false, false, false, false, false, false, false, false, false, false, false, false, false, false] rfl rfl (by kernel_rfl) (fun _ _ _ _ h => h) ?_
            apply Exists.intro
            refine ⟨Or.inl ⟨by rfl, ?_⟩, ?_⟩
            · intro w0; go_simp; try with_reducible rfl
            try simp only [Act.put, List.setIfInBounds_toArray, List.set_cons_succ, List.set_cons_zero]
            refine pureE (i := 2) (oi := { dst := some 103, op := Op.move (Operand.tmp 6), type := 39, pos := "law.go:48", after := #[], guard := none }) (N := some 103) #[true, false, true, false, false, false, false, false, false, false, false, false, false, false, false, false, false, false, false, false, false, false, false, false, false, false, false, false, false, false, false, false, false] rfl rfl (by kernel_rfl) (fun _ _ _ _ h => h) ?_
            apply Exists.intro
            refine ⟨Or.inl ⟨by rfl, ?_⟩, ?_⟩
            · intro w0; go_simp; try with_reducible rfl
            try simp only [Act.put, List.setIfInBounds_toArray, List.set_cons_succ, List.set_cons_zero]
            refine pureE (i := 3) (oi := { dst := some 104, op := Op.nilCheck (Operand.tmp 103), type := 0, pos := "law.go:48", after := #[{ on := 2, ground := Ground.data }], guard := none }) (N := some 104) #[true, false, true, true, false, false, false, false, false, false, false, false, false, false, false, false, false, false, false, false, false, false, false, false, false, false, false, false, false, false, false, false, false] rfl rfl (by kernel_rfl) (fun _ _ _ _ h => h) ?_
            apply Exists.intro
            refine ⟨Or.inl ⟨by rfl, ?_⟩, ?_⟩
            · intro w0; go_simp; try with_reducible rfl
            try simp only [Act.put, List.setIfInBounds_toArray, List.set_cons_succ, List.set_cons_zero]
            refine pureE (i := 4) (oi := { dst := some 105, op := Op.fieldAddr 47 (Operand.tmp 104) 0, type := 0, pos := "law.go:48", after := #[{ on := 3, ground := Ground.data }], guard := none }) (N := some 105) #[true, false, true, true, true, false, false, false, false, false, false, false, false, false, false, false, false, false, false, false, false, false, false, false, false, false, false, false, false, false, false, false, false] rfl rfl (by kernel_rfl) (fun _ _ _ _ h => h) ?_
            apply Exists.intro
            refine ⟨Or.inl ⟨by rfl, ?_⟩, ?_⟩
            · intro w0; go_simp; try with_reducible rfl
            try simp only [Act.put, List.setIfInBounds_toArray, List.set_cons_succ, List.set_cons_zero]
            refine takeE (i := 5) (oi := { dst := some 106, op := Op.load 22 (Operand.tmp 105), type := 22, pos := "law.go:48", after := #[{ on := 4, ground := Ground.data }], guard := none }) (N := some 106) #[true, false, true, true, true, true, false, false, false, false, false, false, false, false, false, false, false, false, false, false, false, false, false, false, false, false, false, false, false, false, false, false, false] rfl rfl (by kernel_rfl) (fun _ _ _ _ h => h) hS ?_
            apply Exists.intro
            refine ⟨Or.inl ⟨by rfl, fun w0 h => rn_blk1 (v := .slice A0 n c0) rfl rfl (by kernel_rfl) h rfl⟩, ?_⟩
            try simp only [Act.put, List.setIfInBounds_toArray, List.set_cons_succ, List.set_cons_zero]
            refine pureE (i := 6) (oi := { dst := some 107, op := Op.call { callee := Callee.builtin Builtin.len, args := #[Operand.tmp 106], argTypes := #[22] }, type := 3, pos := "law.go:48", after := #[{ on := 5, ground := Ground.data }], guard := none }) (N := some 107) #[true, false, true, true, true, true, true, false, false, false, false, false, false, false, false, false, false, false, false, false, false, false, false, false, false, false, false, false, false, false, false, false, false] rfl rfl (by kernel_rfl) (fun _ _ _ _ h => h) ?_
            apply Exists.intro
            refine ⟨Or.inl ⟨by rfl, ?_⟩, ?_⟩
            · intro w0; go_simp; try with_reducible rfl
            try simp only [Act.put, List.setIfInBounds_toArray, List.set_cons_succ, List.set_cons_zero]
            refine Go.Proofs.YtbkfhieadnfndaaW.PrintLast.one_ (i := 1) (oi := { dst := some 102, op := Op.call { callee := Callee.value (Operand.func 15), args := #[Operand.tmp 101], argTypes := #[24] }, type := 3, pos := "law.go:48", after := #[{ on := 0, ground := Ground.data }], guard := none }) (N := some 102) #[true, true, true, true, true, true, true, false, false, false, false, false, false, false, false, false, false, false, false, false, false, false, false, false, false, false, false, false, false, false, false, false, false] rfl rfl (by kernel_rfl) (by decide) (fun K hK => ?_)
            rw [if_pos (by rfl)]
            refine wk_enter 15 #[.pointer (some ⟨q, 0, none⟩)] ?_ ?_
            · go_simp
            refine (ring_len_d (hw.front 3 rfl) (n : Int) (by rw [N.out])).mono ?_
            rintro e w1 ⟨rfl, e1⟩
            replace e1 := e1.symm; subst e1
            refine ⟨_, rfl, ?_⟩
            refine hK.out _ _ (hw.read 0 rfl) (fun hS => ?_); clear hK K; try simp only [Act.put, List.setIfInBounds_toArray, List.set_cons_succ, List.set_cons_zero]
            refine pureE (i := 7) (oi := { dst := some 108, op := Op.binOp BinOp.neq 3 (Operand.tmp 102) (Operand.tmp 107) 3, type := 4, pos := "law.go:48", after := #[{ on := 1, ground := Ground.data }, { on := 6, ground := Ground.data }], guard := none }) (N := some 108) #[true, true, true, true, true, true, true, true, false, false, false, false, false, false, false, false, false, false, false, false, false, false, false, false, false, false, false, false, false, false, false, false, false] rfl rfl (by kernel_rfl) (fun _ _ _ _ h => h) ?_
            apply Exists.intro
            refine ⟨Or.inl ⟨by rfl, ?_⟩, ?_⟩
            · intro w0; go_simp; try with_reducible rfl
            try simp only [Act.put, List.setIfInBounds_toArray, List.set_cons_succ, List.set_cons_zero]
            refine pureE (i := 8) (oi := { dst := some 109, op := Op.move (Operand.tmp 108), type := 4, pos := "law.go:48", after := #[{ on := 7, ground := Ground.data }, { on := 1, ground := Ground.chain }], guard := none }) (N := some 109) #[true, true, true, true, true, true, true, true, true, false, false, false, false, false, false, false, false, false, false, false, false, false, false, false, false, false, false, false, false, false, false, false, false] rfl rfl (by kernel_rfl) (fun _ _ _ _ h => h) ?_
            apply Exists.intro
            refine ⟨Or.inl ⟨by rfl, ?_⟩, ?_⟩
            · intro w0; go_simp; try with_reducible rfl
            try simp only [Act.put, List.setIfInBounds_toArray, List.set_cons_succ, List.set_cons_zero]
            refine pureE (i := 9) (oi := { dst := some 110, op := Op.move (Operand.tmp 5), type := 24, pos := "law.go:48", after := #[{ on := 8, ground := Ground.guard }], guard := some (8, false) }) (N := some 110) #[true, true, true, true, true, true, true, true, true, true, false, false, false, false, false, false, false, false, false, false, false, false, false, false, false, false, false, false, false, false, false, false, false] rfl rfl (by kernel_rfl) (fun _ _ _ _ h => h) ?_
            apply Exists.intro
            refine ⟨Or.inl ⟨by rfl, ?_⟩, ?_⟩
            · intro w0; go_simp; try with_reducible rfl
            try simp only [Act.put, List.setIfInBounds_toArray, List.set_cons_succ, List.set_cons_zero]
            refine pureE (i := 11) (oi := { dst := some 112, op := Op.move (Operand.tmp 6), type := 39, pos := "law.go:48", after := #[{ on := 8, ground := Ground.guard }], guard := some (8, false) }) (N := some 112) #[true, true, true, true, true, true, true, true, true, true, false, true, false, false, false, false, false, false, false, false, false, false, false, false, false, false, false, false, false, false, false, false, false] rfl rfl (by kernel_rfl) (fun _ _ _ _ h => h) ?_
            apply Exists.intro
            refine ⟨Or.inl ⟨by rfl, ?_⟩, ?_⟩
            · intro w0; go_simp; try with_reducible rfl
            try simp only [Act.put, List.setIfInBounds_toArray, List.set_cons_succ, List.set_cons_zero]
            refine pureE (i := 12) (oi := { dst := some 113, op := Op.nilCheck (Operand.tmp 112), type := 0, pos := "law.go:48", after := #[{ on := 11, ground := Ground.data }, { on := 8, ground := Ground.guard }], guard := some (8, false) }) (N := some 113) #[true, true, true, true, true, true, true, true, true, true, false, true, true, false, false, false, false, false, false, false, false, false, false, false, false, false, false, false, false, false, false, false, false] rfl rfl (by kernel_rfl) (fun _ _ _ _ h => h) ?_
            apply Exists.intro
            refine ⟨Or.inl ⟨by rfl, ?_⟩, ?_⟩
            · intro w0; go_simp; try with_reducible rfl
            try simp only [Act.put, List.setIfInBounds_toArray, List.set_cons_succ, List.set_cons_zero]
            refine pureE (i := 13) (oi := { dst := some 114, op := Op.fieldAddr 47 (Operand.tmp 113) 1, type := 0, pos := "law.go:48", after := #[{ on := 12, ground := Ground.data }, { on := 8, ground := Ground.guard }], guard := some (8, false) }) (N := some 114) #[true, true, true, true, true, true, true, true, true, true, false, true, true, true, false, false, false, false, false, false, false, false, false, false, false, false, false, false, false, false, false, false, false] rfl rfl (by kernel_rfl) (fun _ _ _ _ h => h) ?_
            apply Exists.intro
            refine ⟨Or.inl ⟨by rfl, ?_⟩, ?_⟩
            · intro w0; go_simp; try with_reducible rfl
            try simp only [Act.put, List.setIfInBounds_toArray, List.set_cons_succ, List.set_cons_zero]
            refine pureE (i := 15) (oi := { dst := some 116, op := Op.move (Operand.tmp 6), type := 39, pos := "law.go:48", after := #[{ on := 8, ground := Ground.guard }], guard := some (8, false) }) (N := some 116) #[true, true, true, true, true, true, true, true, true, true, false, true, true, true, false, true, false, false, false, false, false, false, false, false, false, false, false, false, false, false, false, false, false] rfl rfl (by kernel_rfl) (fun _ _ _ _ h => h) ?_
            apply Exists.intro
            refine ⟨Or.inl ⟨by rfl, ?_⟩, ?_⟩
            · intro w0; go_simp; try with_reducible rfl
            try simp only [Act.put, List.setIfInBounds_toArray, List.set_cons_succ, List.set_cons_zero]
            refine pureE (i := 16) (oi := { dst := some 117, op := Op.nilCheck (Operand.tmp 116), type := 0, pos := "law.go:48", after := #[{ on := 15, ground := Ground.data }, { on := 8, ground := Ground.guard }], guard := some (8, false) }) (N := some 117) #[true, true, true, true, true, true, true, true, true, true, false, true, true, true, false, true, true, false, false, false, false, false, false, false, false, false, false, false, false, false, false, false, false] rfl rfl (by kernel_rfl) (fun _ _ _ _ h => h) ?_
            apply Exists.intro
            refine ⟨Or.inl ⟨by rfl, ?_⟩, ?_⟩
            · intro w0; go_simp; try with_reducible rfl
            try simp only [Act.put, List.setIfInBounds_toArray, List.set_cons_succ, List.set_cons_zero]
            refine pureE (i := 17) (oi := { dst := some 118, op := Op.fieldAddr 47 (Operand.tmp 117) 0, type := 0, pos := "law.go:48", after := #[{ on := 16, ground := Ground.data }, { on := 8, ground := Ground.guard }], guard := some (8, false) }) (N := some 118) #[true, true, true, true, true, true, true, true, true, true, false, true, true, true, false, true, true, true, false, false, false, false, false, false, false, false, false, false, false, false, false, false, false] rfl rfl (by kernel_rfl) (fun _ _ _ _ h => h) ?_
            apply Exists.intro
            refine ⟨Or.inl ⟨by rfl, ?_⟩, ?_⟩
            · intro w0; go_simp; try with_reducible rfl
            try simp only [Act.put, List.setIfInBounds_toArray, List.set_cons_succ, List.set_cons_zero]
            refine takeE (i := 14) (oi := { dst := some 115, op := Op.load 3 (Operand.tmp 114), type := 3, pos := "law.go:48", after := #[{ on := 13, ground := Ground.data }, { on := 8, ground := Ground.guard }], guard := some (8, false) }) (N := some 115) #[true, true, true, true, true, true, true, true, true, true, false, true, true, true, true, true, true, true, false, false, false, false, false, false, false, false, false, false, false, false, false, false, false] rfl rfl (by kernel_rfl) (fun _ _ _ _ h => h) hS ?_
            apply Exists.intro
            refine ⟨Or.inl ⟨by rfl, fun w0 h => rn_blk1 (v := .int .i64 R) rfl rfl (by kernel_rfl) h rfl⟩, ?_⟩
            try simp only [Act.put, List.setIfInBounds_toArray, List.set_cons_succ, List.set_cons_zero]
            refine takeE (i := 18) (oi := { dst := some 119, op := Op.load 22 (Operand.tmp 118), type := 22, pos := "law.go:48", after := #[{ on := 17, ground := Ground.data }, { on := 8, ground := Ground.guard }], guard := some (8, false) }) (N := some 119) #[true, true, true, true, true, true, true, true, true, true, false, true, true, true, true, true, true, true, true, false, false, false, false, false, false, false, false, false, false, false, false, false, false] rfl rfl (by kernel_rfl) (fun _ _ _ _ h => h) hS ?_
            apply Exists.intro
            refine ⟨Or.inl ⟨by rfl, fun w0 h => rn_blk1 (v := .slice A0 n c0) rfl rfl (by kernel_rfl) h rfl⟩, ?_⟩
            try simp only [Act.put, List.setIfInBounds_toArray, List.set_cons_succ, List.set_cons_zero]
            refine pureE (i := 19) (oi := { dst := some 120, op := Op.call { callee := Callee.builtin Builtin.len, args := #[Operand.tmp 119], argTypes := #[22] }, type := 3, pos := "law.go:48", after := #[{ on := 18, ground := Ground.data }, { on := 8, ground := Ground.guard }], guard := some (8, false) }) (N := some 120) #[true, true, true, true, true, true, true, true, true, true, false, true, true, true, true, true, true, true, true, true, false, false, false, false, false, false, false, false, false, false, false, false, false] rfl rfl (by kernel_rfl) (fun _ _ _ _ h => h) ?_
            apply Exists.intro
            refine ⟨Or.inl ⟨by rfl, ?_⟩, ?_⟩
            · intro w0; go_simp; try with_reducible rfl
            try simp only [Act.put, List.setIfInBounds_toArray, List.set_cons_succ, List.set_cons_zero]
            refine pureE (i := 20) (oi := { dst := some 121, op := Op.binOp BinOp.sub 3 (Operand.tmp 115) (Operand.tmp 120) 3, type := 3, pos := "law.go:48", after := #[{ on := 14, ground := Ground.data }, { on := 19, ground := Ground.data }, { on := 8, ground := Ground.guard }], guard := some (8, false) }) (N := some 121) #[true, true, true, true, true, true, true, true, true, true, false, true, true, true, true, true, true, true, true, true, true, false, false, false, false, false, false, false, false, false, false, false, false] rfl rfl (by kernel_rfl) (fun _ _ _ _ h => h) ?_
            apply Exists.intro
            refine ⟨Or.inl ⟨by rfl, ?_⟩, ?_⟩
            · intro w0; go_simp; try with_reducible rfl
            try simp only [Act.put, List.setIfInBounds_toArray, List.set_cons_succ, List.set_cons_zero]
            refine Go.Proofs.YtbkfhieadnfndaaW.PrintLast.one_ (i := 10) (oi := { dst := some 111, op := Op.call { callee := Callee.value (Operand.func 17), args := #[Operand.tmp 110], argTypes := #[24] }, type := 3, pos := "law.go:48", after := #[{ on := 9, ground := Ground.data }, { on := 8, ground := Ground.chain }, { on := 8, ground := Ground.guard }], guard := some (8, false) }) (N := some 111) #[true, true, true, true, true, true, true, true, true, true, true, true, true, true, true, true, true, true, true, true, true, false, false, false, false, false, false, false, false, false, false, false, false] rfl rfl (by kernel_rfl) (by decide) (fun K hK => ?_)
            rw [if_pos (by rfl)]
            refine wk_enter 17 #[.pointer (some ⟨q, 0, none⟩)] ?_ ?_
            · go_simp
            refine (ring_room_d (hw.front 3 rfl) d (by rw [D.out, N.out])).mono ?_
            rintro e w1 ⟨rfl, nq2, rfl⟩
            have hw := hw.drewN nq2
            generalize w.drewN nq2 = w at hw ⊢
            refine ⟨_, rfl, ?_⟩
            refine hK.out _ _ (hw.read 0 rfl) (fun hS => ?_); clear hK K; try simp only [Act.put, List.setIfInBounds_toArray, List.set_cons_succ, List.set_cons_zero]
            refine pureE (i := 21) (oi := { dst := some 122, op := Op.binOp BinOp.neq 3 (Operand.tmp 111) (Operand.tmp 121) 3, type := 4, pos := "law.go:48", after := #[{ on := 10, ground := Ground.data }, { on := 20, ground := Ground.data }, { on := 8, ground := Ground.guard }], guard := some (8, false) }) (N := some 122) #[true, true, true, true, true, true, true, true, true, true, true, true, true, true, true, true, true, true, true, true, true, true, false, false, false, false, false, false, false, false, false, false, false] rfl rfl (by kernel_rfl) (fun _ _ _ _ h => h) ?_
            apply Exists.intro
            refine ⟨Or.inl ⟨by rfl, ?_⟩, ?_⟩
            · intro w0; go_simp; try with_reducible rfl
            try simp only [Act.put, List.setIfInBounds_toArray, List.set_cons_succ, List.set_cons_zero]
            refine pureE (i := 22) (oi := { dst := some 123, op := Op.pick (Operand.tmp 109) (Operand.const (Value.bool true)) (Operand.tmp 122), type := 4, pos := "law.go:48", after := #[{ on := 8, ground := Ground.data }, { on := 21, ground := Ground.data }], guard := none }) (N := some 123) #[true, true, true, true, true, true, true, true, true, true, true, true, true, true, true, true, true, true, true, true, true, true, true, false, false, false, false, false, false, false, false, false, false] rfl rfl (by kernel_rfl) (fun _ _ _ _ h => h) ?_
            apply Exists.intro
            refine ⟨Or.inl ⟨by rfl, ?_⟩, ?_⟩
            · intro w0; go_simp; try with_reducible rfl
            try simp only [Act.put, List.setIfInBounds_toArray, List.set_cons_succ, List.set_cons_zero]
            refine pureE (i := 23) (oi := { dst := some 124, op := Op.move (Operand.tmp 123), type := 4, pos := "law.go:48", after := #[{ on := 22, ground := Ground.data }, { on := 10, ground := Ground.chain }], guard := none }) (N := some 124) #[true, true, true, true, true, true, true, true, true, true, true, true, true, true, true, true, true, true, true, true, true, true, true, true, false, false, false, false, false, false, false, false, false] rfl rfl (by kernel_rfl) (fun _ _ _ _ h => h) ?_
            apply Exists.intro
            refine ⟨Or.inl ⟨by rfl, ?_⟩, ?_⟩
            · intro w0; go_simp; try with_reducible rfl
            try simp only [Act.put, List.setIfInBounds_toArray, List.set_cons_succ, List.set_cons_zero]
            refine pureE (i := 24) (oi := { dst := some 125, op := Op.move (Operand.tmp 5), type := 24, pos := "law.go:48", after := #[{ on := 23, ground := Ground.guard }], guard := some (23, false) }) (N := some 125) #[true, true, true, true, true, true, true, true, true, true, true, true, true, true, true, true, true, true, true, true, true, true, true, true, true, false, false, false, false, false, false, false, false] rfl rfl (by kernel_rfl) (fun _ _ _ _ h => h) ?_
            apply Exists.intro
            refine ⟨Or.inl ⟨by rfl, ?_⟩, ?_⟩
            · intro w0; go_simp; try with_reducible rfl
            try simp only [Act.put, List.setIfInBounds_toArray, List.set_cons_succ, List.set_cons_zero]
            refine pureE (i := 26) (oi := { dst := some 127, op := Op.move (Operand.tmp 6), type := 39, pos := "law.go:48", after := #[{ on := 23, ground := Ground.guard }], guard := some (23, false) }) (N := some 127) #[true, true, true, true, true, true, true, true, true, true, true, true, true, true, true, true, true, true, true, true, true, true, true, true, true, false, true, false, false, false, false, false, false] rfl rfl (by kernel_rfl) (fun _ _ _ _ h => h) ?_
            apply Exists.intro
            refine ⟨Or.inl ⟨by rfl, ?_⟩, ?_⟩
            · intro w0; go_simp; try with_reducible rfl
            try simp only [Act.put, List.setIfInBounds_toArray, List.set_cons_succ, List.set_cons_zero]
            refine pureE (i := 27) (oi := { dst := some 128, op := Op.nilCheck (Operand.tmp 127), type := 0, pos := "law.go:48", after := #[{ on := 26, ground := Ground.data }, { on := 23, ground := Ground.guard }], guard := some (23, false) }) (N := some 128) #[true, true, true, true, true, true, true, true, true, true, true, true, true, true, true, true, true, true, true, true, true, true, true, true, true, false, true, true, false, false, false, false, false] rfl rfl (by kernel_rfl) (fun _ _ _ _ h => h) ?_
            apply Exists.intro
            refine ⟨Or.inl ⟨by rfl, ?_⟩, ?_⟩
            · intro w0; go_simp; try with_reducible rfl
            try simp only [Act.put, List.setIfInBounds_toArray, List.set_cons_succ, List.set_cons_zero]
            refine pureE (i := 28) (oi := { dst := some 129, op := Op.fieldAddr 47 (Operand.tmp 128) 0, type := 0, pos := "law.go:48", after := #[{ on := 27, ground := Ground.data }, { on := 23, ground := Ground.guard }], guard := some (23, false) }) (N := some 129) #[true, true, true, true, true, true, true, true, true, true, true, true, true, true, true, true, true, true, true, true, true, true, true, true, true, false, true, true, true, false, false, false, false] rfl rfl (by kernel_rfl) (fun _ _ _ _ h => h) ?_
            apply Exists.intro
            refine ⟨Or.inl ⟨by rfl, ?_⟩, ?_⟩
            · intro w0; go_simp; try with_reducible rfl
            try simp only [Act.put, List.setIfInBounds_toArray, List.set_cons_succ, List.set_cons_zero]
            refine takeE (i := 29) (oi := { dst := some 130, op := Op.load 22 (Operand.tmp 129), type := 22, pos := "law.go:48", after := #[{ on := 28, ground := Ground.data }, { on := 23, ground := Ground.guard }], guard := some (23, false) }) (N := some 130) #[true, true, true, true, true, true, true, true, true, true, true, true, true, true, true, true, true, true, true, true, true, true, true, true, true, false, true, true, true, true, false, false, false] rfl rfl (by kernel_rfl) (fun _ _ _ _ h => h) hS ?_
            apply Exists.intro
            refine ⟨Or.inl ⟨by rfl, fun w0 h => rn_blk1 (v := .slice A0 n c0) rfl rfl (by kernel_rfl) h rfl⟩, ?_⟩
            try simp only [Act.put, List.setIfInBounds_toArray, List.set_cons_succ, List.set_cons_zero]
            refine Go.Proofs.YtbkfhieadnfndaaW.PrintLast.one_ (i := 25) (oi := { dst := some 126, op := Op.call { callee := Callee.value (Operand.func 19), args := #[Operand.tmp 125], argTypes := #[24] }, type := 22, pos := "law.go:48", after := #[{ on := 24, ground := Ground.data }, { on := 23, ground := Ground.chain }, { on := 23, ground := Ground.guard }], guard := some (23, false) }) (N := some 126) #[true, true, true, true, true, true, true, true, true, true, true, true, true, true, true, true, true, true, true, true, true, true, true, true, true, true, true, true, true, true, false, false, false] rfl rfl (by kernel_rfl) (by decide) (fun K hK => ?_)
            rw [if_pos (by rfl)]
            refine wk_enter 19 #[.pointer (some ⟨q, 0, none⟩)] ?_ ?_
            · go_simp
            refine (ring_all (hw.front 3 rfl)).mono ?_
            clear hw; rintro e w ⟨v1, rfl, hw⟩; (try simp only [List.set_cons_succ, List.set_cons_zero, List.setIfInBounds_toArray, Value.cells, List.eraseIdx_cons_succ, List.eraseIdx_cons_zero] at hw)
            refine ⟨_, rfl, ?_⟩
            refine hK.out _ _ (hw.read 2 rfl) (fun hS => ?_); clear hK K; try simp only [Act.put, List.setIfInBounds_toArray, List.set_cons_succ, List.set_cons_zero]
            refine Go.Proofs.YtbkfhieadnfndaaW.PrintLast.one_ (i := 30) (oi := { dst := some 131, op := Op.call { callee := Callee.value (Operand.func 18), args := #[Operand.tmp 126, Operand.tmp 130], argTypes := #[22, 22] }, type := 4, pos := "law.go:48", after := #[{ on := 25, ground := Ground.data }, { on := 29, ground := Ground.data }, { on := 25, ground := Ground.chain }, { on := 23, ground := Ground.guard }], guard := some (23, false) }) (N := some 131) #[true, true, true, true, true, true, true, true, true, true, true, true, true, true, true, true, true, true, true, true, true, true, true, true, true, true, true, true, true, true, true, false, false] rfl rfl (by kernel_rfl) (by decide) (fun K hK => ?_)
            rw [if_pos (by rfl)]
            refine wk_enter 18 #[v1, .slice A0 n c0] ?_ ?_
            · go_simp
            refine (ref_same (Rd_row hw 0 rfl) (by rw [← N.out]; exact Rd_row hw 3 rfl) HQ.out.2.2 HQ.out.2.2 (by rw [← N.out]; omega)).mono ?_
            rintro e w1 ⟨rfl, nq2, rfl⟩
            have hw := hw.drewN nq2
            generalize w.drewN nq2 = w at hw ⊢
            rw [sameL_iff.2 rfl]
            refine ⟨_, rfl, ?_⟩
            refine hK.out _ _ (hw.read 2 rfl) (fun hS => ?_); clear hK K; try simp only [Act.put, List.setIfInBounds_toArray, List.set_cons_succ, List.set_cons_zero]
            refine pureE (i := 31) (oi := { dst := some 132, op := Op.unOp UnOp.not 4 (Operand.tmp 131), type := 4, pos := "law.go:48", after := #[{ on := 30, ground := Ground.data }, { on := 23, ground := Ground.guard }], guard := some (23, false) }) (N := some 132) #[true, true, true, true, true, true, true, true, true, true, true, true, true, true, true, true, true, true, true, true, true, true, true, true, true, true, true, true, true, true, true, true, false] rfl rfl (by kernel_rfl) (fun _ _ _ _ h => h) ?_
            apply Exists.intro
            refine ⟨Or.inl ⟨by rfl, ?_⟩, ?_⟩
            · intro w0; go_simp; try with_reducible rfl
            try simp only [Act.put, List.setIfInBounds_toArray, List.set_cons_succ, List.set_cons_zero]
            refine pureE (i := 32) (oi := { dst := some 133, op := Op.pick (Operand.tmp 124) (Operand.const (Value.bool true)) (Operand.tmp 132), type := 4, pos := "law.go:48", after := #[{ on := 23, ground := Ground.data }, { on := 31, ground := Ground.data }], guard := none }) (N := some 133) #[true, true, true, true, true, true, true, true, true, true, true, true, true, true, true, true, true, true, true, true, true, true, true, true, true, true, true, true, true, true, true, true, true] rfl rfl (by kernel_rfl) (fun _ _ _ _ h => h) ?_
            apply Exists.intro
            refine ⟨Or.inl ⟨by rfl, ?_⟩, ?_⟩
            · intro w0; go_simp; try with_reducible rfl
            try simp only [Act.put, List.setIfInBounds_toArray, List.set_cons_succ, List.set_cons_zero]
            refine Go.Proofs.YtbkfhieadnfndaaW.PrintLast.done_ (by kernel_rfl) ?_; clear hS
            go_wp2
            have hw := (((hw.del 0 rfl).del 3 rfl).front 2 rfl).front 2 rfl
            (try simp only [List.set_cons_succ, List.set_cons_zero, List.setIfInBounds_toArray, Value.cells, List.eraseIdx_cons_succ, List.eraseIdx_cons_zero] at hw)
            rw [N.out] at hw
            go_roundw
            case rel => exact ⟨k + 1, by omega, by go_num, _, (RefQ_shut HQ.out hw).front 1 rfl⟩
            case measure => simp [intOf]; omega
          | cons m1 L =>
            have h1 := (Queue_open hw).1.2.2 m1 (by simp)
            have h1s := h1.size
            have h1o := h1.one
            go_wp2_with (first
              | (go_at_call 23; go_must (refine (ring_first hw).mono ?_); clear hw; rintro e w ⟨rfl, hw⟩)
              | (refine wl_alloc hw msg_zero ?_; clear hw; intro b3 w hw; (try simp only [List.set_cons_succ, List.set_cons_zero, List.setIfInBounds_toArray, Value.cells, List.eraseIdx_cons_succ, List.eraseIdx_cons_zero] at hw))
              | (refine wl_store_all (vs := m1) hw rfl 0 rfl rfl (by rw [msg_size, h1s]) (by simp only [h1s, msg0_size]) h1o ?_; clear hw; intro w hw; (try simp only [List.set_cons_succ, List.set_cons_zero, List.setIfInBounds_toArray, Value.cells, List.eraseIdx_cons_succ, List.eraseIdx_cons_zero] at hw)))
            obtain ⟨hq, v0, hw⟩ := RefQ_open (hw.front 2 rfl)
            obtain ⟨A0, c0, rfl, hc0, hg0⟩ := Row_val hw 1 rfl
            clear hc0 
            obtain ⟨n, hn⟩ : ∃ n : Nat, n = (m1 :: L : List (Array Value)).length := ⟨_, rfl⟩
            have N := Kp.mk hn
            rw [← N.out] at hw hg0
            have hnR : n ≤ R := by rw [hn]; exact hq.1
            have hn0 : ((n : Int) == 0) = false := by rw [hn, beq_eq_false_iff_ne, List.length_cons]; omega
            have hn1 : decide (0 < n) = true := by rw [hn]; simp
            have hn2 : decide ((0 : Int) < (n : Int)) = true := by rw [decide_eq_true_eq, hn, List.length_cons]; omega
            have hn3 : (0 : Int) < (n : Int) := by rw [hn, List.length_cons]; omega
            clear hn hg0
            obtain ⟨ad4, hA4, hca4⟩ := (Rd_row hw 1 rfl).addr (by omega)
            have ca4 := Kp.mk (cells_at (sz := 38) (k := 0) hca4 (fun x hx => (hq.2.2 x hx).size) rfl)
            have HA4 := Kp.mk hA4
            clear hca4 hA4
            have d0 : w.cell? ⟨r, 0, none⟩ = some (.slice A0 n c0) := cell_of_row _ _ _ _ _ _ (hw.read 0 rfl)
            have d1 : w.cell? ⟨r, 1, none⟩ = some (.int .i64 R) := cell_of_row _ _ _ _ _ _ (hw.read 0 rfl)
            have cb3 := Kp.mk (blk_cells hw 2 rfl)
            have hs := Kp.mk (show (!same m1 m1) = false by rw [same_self]; rfl)
            (refine wp_region_quiet_lit (by kernel_rfl) (by kernel_rfl) ?_; (repeat (first | go_big_quiet_skip | (go_big_quiet_want; (first | (refine qk_index rfl rfl rfl u_msgs msg_size HA4.out (by omega) (by omega) ?_; simp only [Act.put, List.setIfInBounds_toArray, List.set_cons_succ, List.set_cons_zero]) | (refine qk_ldA (m := m1) (ad := ⟨b3, 0, none⟩) rfl rfl (by rw [msg_agg, h1s]) cb3.out ?_; simp only [Act.put, List.setIfInBounds_toArray, List.set_cons_succ, List.set_cons_zero]) | (refine qk_ldA (m := m1) (ad := ad4.add (0 * 38)) rfl rfl (by rw [msg_agg, h1s]) ca4.out ?_; simp only [Act.put, List.setIfInBounds_toArray, List.set_cons_succ, List.set_cons_zero]) | (refine qk_neq rfl m1 m1 rfl rfl msg_kinds (by omega) (by rw [msg_agg]; simp) (by kernel_rfl) h1 h1 _ hs.out ?_; simp only [Act.put, List.setIfInBounds_toArray, List.set_cons_succ, List.set_cons_zero]) | go_big_quiet_op); go_big_quiet_on))); refine wpQuiet_nil ?_; rintro _ ⟨nq, rfl⟩)
            have hw := hw.drewN nq
            clear d0 d1 cb3 ca4
            generalize w.drewN nq = w at hw ⊢
            go_wp2
            clear hn0 hn1 hn2 hn3
            obtain ⟨d, hd⟩ : ∃ d : Int, d = R - n := ⟨_, rfl⟩
            have D := Kp.mk hd
            have hne : (d != IntKind.i64.wrap ((R : Int) - n)) = false := by rw [IntWalk.i64_in _ ⟨by omega, by omega⟩, bne_eq_false_iff_eq]; exact hd
            clear hd
            have HQ := Kp.mk hq
            clear hq
            refine Go.Proofs.YtbkfhieadnfndaaW.PrintLast.start_ (S := (fun w' => w'.heap[r]? = some (.cells #[.slice A0 n c0, .int .i64 R] 47 (0, 0)))) (ds := []) #[false, false, false, false, false, false, false, false, false, false, false, false, false, false, false, false, false, false, false, false, false, false, false, false, false, false, false, false, false, false, false, false, false] (by kernel_rfl) rfl (by rfl) ?_ (fun hS => ?_)
            · exact hw.drew.read 0 rfl
            replace hw := hw.drew; generalize w.drew = w at hw hS ⊢
            refine pureE (i := 0) (oi := { dst := some 101, op := Op.move (Operand.tmp 5), type := 24, pos := "law.go:48", after := #[], guard := none }) (N := some 101) #[true, false, false, false, false, false, false, false, false, false, false, false, false, false, false, false, false, false, false, false, false, false, false, false, false, false, false, false, false, false, false, false, false] rfl rfl (by kernel_rfl) (fun _ _ _ _ h => h) ?_
            apply Exists.intro
            refine ⟨Or.inl ⟨by rfl, ?_⟩, ?_⟩
            · intro w0; go_simp; try with_reducible rfl
            try simp only [Act.put, List.setIfInBounds_toArray, List.set_cons_succ, List.set_cons_zero]
            refine pureE (i := 2) (oi := { dst := some 103, op := Op.move (Operand.tmp 6), type := 39, pos := "law.go:48", after := #[], guard := none }) (N := some 103) #[true, false, true, false, false, false, false, false, false, false, false, false, false, false, false, false, false, false, false, false, false, false, false, false, false, false, false, false, false, false, false, false, false] rfl rfl (by kernel_rfl) (fun _ _ _ _ h => h) ?_
            apply Exists.intro
            refine ⟨Or.inl ⟨by rfl, ?_⟩, ?_⟩
            · intro w0; go_simp; try with_reducible rfl
            try simp only [Act.put, List.setIfInBounds_toArray, List.set_cons_succ, List.set_cons_zero]
            refine pureE (i := 3) (oi := { dst := some 104, op := Op.nilCheck (Operand.tmp 103), type := 0, pos := "law.go:48", after := #[{ on := 2, ground := Ground.data }], guard := none }) (N := some 104) #[true, false, true, true, false, false, false, false, false, false, false, false, false, false, false, false, false, false, false, false, false, false, false, false, false, false, false, false, false, false, false, false, false] rfl rfl (by kernel_rfl) (fun _ _ _ _ h => h) ?_
            apply Exists.intro
            refine ⟨Or.inl ⟨by rfl, ?_⟩, ?_⟩
            · intro w0; go_simp; try with_reducible rfl
            try simp only [Act.put, List.setIfInBounds_toArray, List.set_cons_succ, List.set_cons_zero]
            refine pureE (i := 4) (oi := { dst := some 105, op := Op.fieldAddr 47 (Operand.tmp 104) 0, type := 0, pos := "law.go:48", after := #[{ on := 3, ground := Ground.data }], guard := none }) (N := some 105) #[true, false, true, true, true, false, false, false, false, false, false, false, false, false, false, false, false, false, false, false, false, false, false, false, false, false, false, false, false, false, false, false, false] rfl rfl (by kernel_rfl) (fun _ _ _ _ h => h) ?_
            apply Exists.intro
            refine ⟨Or.inl ⟨by rfl, ?_⟩, ?_⟩
            · intro w0; go_simp; try with_reducible rfl
            try simp only [Act.put, List.setIfInBounds_toArray, List.set_cons_succ, List.set_cons_zero]
            refine takeE (i := 5) (oi := { dst := some 106, op := Op.load 22 (Operand.tmp 105), type := 22, pos := "law.go:48", after := #[{ on := 4, ground := Ground.data }], guard := none }) (N := some 106) #[true, false, true, true, true, true, false, false, false, false, false, false, false, false, false, false, false, false, false, false, false, false, false, false, false, false, false, false, false, false, false, false, false] rfl rfl (by kernel_rfl) (fun _ _ _ _ h => h) hS ?_
            apply Exists.intro
            refine ⟨Or.inl ⟨by rfl, fun w0 h => rn_blk1 (v := .slice A0 n c0) rfl rfl (by kernel_rfl) h rfl⟩, ?_⟩
            try simp only [Act.put, List.setIfInBounds_toArray, List.set_cons_succ, List.set_cons_zero]
            refine pureE (i := 6) (oi := { dst := some 107, op := Op.call { callee := Callee.builtin Builtin.len, args := #[Operand.tmp 106], argTypes := #[22] }, type := 3, pos := "law.go:48", after := #[{ on := 5, ground := Ground.data }], guard := none }) (N := some 107) #[true, false, true, true, true, true, true, false, false, false, false, false, false, false, false, false, false, false, false, false, false, false, false, false, false, false, false, false, false, false, false, false, false] rfl rfl (by kernel_rfl) (fun _ _ _ _ h => h) ?_
            apply Exists.intro
            refine ⟨Or.inl ⟨by rfl, ?_⟩, ?_⟩
            · intro w0; go_simp; try with_reducible rfl
            try simp only [Act.put, List.setIfInBounds_toArray, List.set_cons_succ, List.set_cons_zero]
            refine Go.Proofs.YtbkfhieadnfndaaW.PrintLast.one_ (i := 1) (oi := { dst := some 102, op := Op.call { callee := Callee.value (Operand.func 15), args := #[Operand.tmp 101], argTypes := #[24] }, type := 3, pos := "law.go:48", after := #[{ on := 0, ground := Ground.data }], guard := none }) (N := some 102) #[true, true, true, true, true, true, true, false, false, false, false, false, false, false, false, false, false, false, false, false, false, false, false, false, false, false, false, false, false, false, false, false, false] rfl rfl (by kernel_rfl) (by decide) (fun K hK => ?_)
            rw [if_pos (by rfl)]
            refine wk_enter 15 #[.pointer (some ⟨q, 0, none⟩)] ?_ ?_
            · go_simp
            refine (ring_len_d (hw.front 3 rfl) (n : Int) (by rw [N.out])).mono ?_
            rintro e w1 ⟨rfl, e1⟩
            replace e1 := e1.symm; subst e1
            refine ⟨_, rfl, ?_⟩
            refine hK.out _ _ (hw.read 0 rfl) (fun hS => ?_); clear hK K; try simp only [Act.put, List.setIfInBounds_toArray, List.set_cons_succ, List.set_cons_zero]
            refine pureE (i := 7) (oi := { dst := some 108, op := Op.binOp BinOp.neq 3 (Operand.tmp 102) (Operand.tmp 107) 3, type := 4, pos := "law.go:48", after := #[{ on := 1, ground := Ground.data }, { on := 6, ground := Ground.data }], guard := none }) (N := some 108) #[true, true, true, true, true, true, true, true, false, false, false, false, false, false, false, false, false, false, false, false, false, false, false, false, false, false, false, false, false, false, false, false, false] rfl rfl (by kernel_rfl) (fun _ _ _ _ h => h) ?_
            apply Exists.intro
            refine ⟨Or.inl ⟨by rfl, ?_⟩, ?_⟩
            · intro w0; go_simp; try with_reducible rfl
            try simp only [Act.put, List.setIfInBounds_toArray, List.set_cons_succ, List.set_cons_zero]
            refine pureE (i := 8) (oi := { dst := some 109, op := Op.move (Operand.tmp 108), type := 4, pos := "law.go:48", after := #[{ on := 7, ground := Ground.data }, { on := 1, ground := Ground.chain }], guard := none }) (N := some 109) #[true, true, true, true, true, true, true, true, true, false, false, false, false, false, false, false, false, false, false, false, false, false, false, false, false, false, false, false, false, false, false, false, false] rfl rfl (by kernel_rfl) (fun _ _ _ _ h => h) ?_
            apply Exists.intro
            refine ⟨Or.inl ⟨by rfl, ?_⟩, ?_⟩
            · intro w0; go_simp; try with_reducible rfl
            try simp only [Act.put, List.setIfInBounds_toArray, List.set_cons_succ, List.set_cons_zero]
            refine pureE (i := 9) (oi := { dst := some 110, op := Op.move (Operand.tmp 5), type := 24, pos := "law.go:48", after := #[{ on := 8, ground := Ground.guard }], guard := some (8, false) }) (N := some 110) #[true, true, true, true, true, true, true, true, true, true, false, false, false, false, false, false, false, false, false, false, false, false, false, false, false, false, false, false, false, false, false, false, false] rfl rfl (by kernel_rfl) (fun _ _ _ _ h => h) ?_
            apply Exists.intro
            refine ⟨Or.inl ⟨by rfl, ?_⟩, ?_⟩
            · intro w0; go_simp; try with_reducible rfl
            try simp only [Act.put, List.setIfInBounds_toArray, List.set_cons_succ, List.set_cons_zero]
            refine pureE (i := 11) (oi := { dst := some 112, op := Op.move (Operand.tmp 6), type := 39, pos := "law.go:48", after := #[{ on := 8, ground := Ground.guard }], guard := some (8, false) }) (N := some 112) #[true, true, true, true, true, true, true, true, true, true, false, true, false, false, false, false, false, false, false, false, false, false, false, false, false, false, false, false, false, false, false, false, false] rfl rfl (by kernel_rfl) (fun _ _ _ _ h => h) ?_
            apply Exists.intro
            refine ⟨Or.inl ⟨by rfl, ?_⟩, ?_⟩
            · intro w0; go_simp; try with_reducible rfl
            try simp only [Act.put, List.setIfInBounds_toArray, List.set_cons_succ, List.set_cons_zero]
            refine pureE (i := 12) (oi := { dst := some 113, op := Op.nilCheck (Operand.tmp 112), type := 0, pos := "law.go:48", after := #[{ on := 11, ground := Ground.data }, { on := 8, ground := Ground.guard }], guard := some (8, false) }) (N := some 113) #[true, true, true, true, true, true, true, true, true, true, false, true, true, false, false, false, false, false, false, false, false, false, false, false, false, false, false, false, false, false, false, false, false] rfl rfl (by kernel_rfl) (fun _ _ _ _ h => h) ?_
            apply Exists.intro
            refine ⟨Or.inl ⟨by rfl, ?_⟩, ?_⟩
            · intro w0; go_simp; try with_reducible rfl
            try simp only [Act.put, List.setIfInBounds_toArray, List.set_cons_succ, List.set_cons_zero]
            refine pureE (i := 13) (oi := { dst := some 114, op := Op.fieldAddr 47 (Operand.tmp 113) 1, type := 0, pos := "law.go:48", after := #[{ on := 12, ground := Ground.data }, { on := 8, ground := Ground.guard }], guard := some (8, false) }) (N := some 114) #[true, true, true, true, true, true, true, true, true, true, false, true, true, true, false, false, false, false, false, false, false, false, false, false, false, false, false, false, false, false, false, false, false] rfl rfl (by kernel_rfl) (fun _ _ _ _ h => h) ?_
            apply Exists.intro
            refine ⟨Or.inl ⟨by rfl, ?_⟩, ?_⟩
            · intro w0; go_simp; try with_reducible rfl
            try simp only [Act.put, List.setIfInBounds_toArray, List.set_cons_succ, List.set_cons_zero]
            refine pureE (i := 15) (oi := { dst := some 116, op := Op.move (Operand.tmp 6), type := 39, pos := "law.go:48", after := #[{ on := 8, ground := Ground.guard }], guard := some (8, false) }) (N := some 116) #[true, true, true, true, true, true, true, true, true, true, false, true, true, true, false, true, false, false, false, false, false, false, false, false, false, false, false, false, false, false, false, false, false] rfl rfl (by kernel_rfl) (fun _ _ _ _ h => h) ?_
            apply Exists.intro
            refine ⟨Or.inl ⟨by rfl, ?_⟩, ?_⟩
            · intro w0; go_simp; try with_reducible rfl
            try simp only [Act.put, List.setIfInBounds_toArray, List.set_cons_succ, List.set_cons_zero]
            refine pureE (i := 16) (oi := { dst := some 117, op := Op.nilCheck (Operand.tmp 116), type := 0, pos := "law.go:48", after := #[{ on := 15, ground := Ground.data }, { on := 8, ground := Ground.guard }], guard := some (8, false) }) (N := some 117) #[true, true, true, true, true, true, true, true, true, true, false, true, true, true, false, true, true, false, false, false, false, false, false, false, false, false, false, false, false, false, false, false, false] rfl rfl (by kernel_rfl) (fun _ _ _ _ h => h) ?_
            apply Exists.intro
            refine ⟨Or.inl ⟨by rfl, ?_⟩, ?_⟩
            · intro w0; go_simp; try with_reducible rfl
            try simp only [Act.put, List.setIfInBounds_toArray, List.set_cons_succ, List.set_cons_zero]
            refine pureE (i := 17) (oi := { dst := some 118, op := Op.fieldAddr 47 (Operand.tmp 117) 0, type := 0, pos := "law.go:48", after := #[{ on := 16, ground := Ground.data }, { on := 8, ground := Ground.guard }], guard := some (8, false) }) (N := some 118) #[true, true, true, true, true, true, true, true, true, true, false, true, true, true, false, true, true, true, false, false, false, false, false, false, false, false, false, false, false, false, false, false, false] rfl rfl (by kernel_rfl) (fun _ _ _ _ h => h) ?_
            apply Exists.intro
            refine ⟨Or.inl ⟨by rfl, ?_⟩, ?_⟩
            · intro w0; go_simp; try with_reducible rfl
            try simp only [Act.put, List.setIfInBounds_toArray, List.set_cons_succ, List.set_cons_zero]
            refine takeE (i := 14) (oi := { dst := some 115, op := Op.load 3 (Operand.tmp 114), type := 3, pos := "law.go:48", after := #[{ on := 13, ground := Ground.data }, { on := 8, ground := Ground.guard }], guard := some (8, false) }) (N := some 115) #[true, true, true, true, true, true, true, true, true, true, false, true, true, true, true, true, true, true, false, false, false, false, false, false, false, false, false, false, false, false, false, false, false] rfl rfl (by kernel_rfl) (fun _ _ _ _ h => h) hS ?_
            apply Exists.intro
            refine ⟨Or.inl ⟨by rfl, fun w0 h => rn_blk1 (v := .int .i64 R) rfl rfl (by kernel_rfl) h rfl⟩, ?_⟩
            try simp only [Act.put, List.setIfInBounds_toArray, List.set_cons_succ, List.set_cons_zero]
            refine takeE (i := 18) (oi := { dst := some 119, op := Op.load 22 (Operand.tmp 118), type := 22, pos := "law.go:48", after := #[{ on := 17, ground := Ground.data }, { on := 8, ground := Ground.guard }], guard := some (8, false) }) (N := some 119) #[true, true, true, true, true, true, true, true, true, true, false, true, true, true, true, true, true, true, true, false, false, false, false, false, false, false, false, false, false, false, false, false, false] rfl rfl (by kernel_rfl) (fun _ _ _ _ h => h) hS ?_
            apply Exists.intro
            refine ⟨Or.inl ⟨by rfl, fun w0 h => rn_blk1 (v := .slice A0 n c0) rfl rfl (by kernel_rfl) h rfl⟩, ?_⟩
            try simp only [Act.put, List.setIfInBounds_toArray, List.set_cons_succ, List.set_cons_zero]
            refine pureE (i := 19) (oi := { dst := some 120, op := Op.call { callee := Callee.builtin Builtin.len, args := #[Operand.tmp 119], argTypes := #[22] }, type := 3, pos := "law.go:48", after := #[{ on := 18, ground := Ground.data }, { on := 8, ground := Ground.guard }], guard := some (8, false) }) (N := some 120) #[true, true, true, true, true, true, true, true, true, true, false, true, true, true, true, true, true, true, true, true, false, false, false, false, false, false, false, false, false, false, false, false, false] rfl rfl (by kernel_rfl) (fun _ _ _ _ h => h) ?_
            apply Exists.intro
            refine ⟨Or.inl ⟨by rfl, ?_⟩, ?_⟩
            · intro w0; go_simp; try with_reducible rfl
            try simp only [Act.put, List.setIfInBounds_toArray, List.set_cons_succ, List.set_cons_zero]
            refine pureE (i := 20) (oi := { dst := some 121, op := Op.binOp BinOp.sub 3 (Operand.tmp 115) (Operand.tmp 120) 3, type := 3, pos := "law.go:48", after := #[{ on := 14, ground := Ground.data }, { on := 19, ground := Ground.data }, { on := 8, ground := Ground.guard }], guard := some (8, false) }) (N := some 121) #[true, true, true, true, true, true, true, true, true, true, false, true, true, true, true, true, true, true, true, true, true, false, false, false, false, false, false, false, false, false, false, false, false] rfl rfl (by kernel_rfl) (fun _ _ _ _ h => h) ?_
            apply Exists.intro
            refine ⟨Or.inl ⟨by rfl, ?_⟩, ?_⟩
            · intro w0; go_simp; try with_reducible rfl
            try simp only [Act.put, List.setIfInBounds_toArray, List.set_cons_succ, List.set_cons_zero]
            refine Go.Proofs.YtbkfhieadnfndaaW.PrintLast.one_ (i := 10) (oi := { dst := some 111, op := Op.call { callee := Callee.value (Operand.func 17), args := #[Operand.tmp 110], argTypes := #[24] }, type := 3, pos := "law.go:48", after := #[{ on := 9, ground := Ground.data }, { on := 8, ground := Ground.chain }, { on := 8, ground := Ground.guard }], guard := some (8, false) }) (N := some 111) #[true, true, true, true, true, true, true, true, true, true, true, true, true, true, true, true, true, true, true, true, true, false, false, false, false, false, false, false, false, false, false, false, false] rfl rfl (by kernel_rfl) (by decide) (fun K hK => ?_)
            rw [if_pos (by rfl)]
            refine wk_enter 17 #[.pointer (some ⟨q, 0, none⟩)] ?_ ?_
            · go_simp
            refine (ring_room_d (hw.front 3 rfl) d (by rw [D.out, N.out])).mono ?_
            rintro e w1 ⟨rfl, nq2, rfl⟩
            have hw := hw.drewN nq2
            generalize w.drewN nq2 = w at hw ⊢
            refine ⟨_, rfl, ?_⟩
            refine hK.out _ _ (hw.read 0 rfl) (fun hS => ?_); clear hK K; try simp only [Act.put, List.setIfInBounds_toArray, List.set_cons_succ, List.set_cons_zero]
            refine pureE (i := 21) (oi := { dst := some 122, op := Op.binOp BinOp.neq 3 (Operand.tmp 111) (Operand.tmp 121) 3, type := 4, pos := "law.go:48", after := #[{ on := 10, ground := Ground.data }, { on := 20, ground := Ground.data }, { on := 8, ground := Ground.guard }], guard := some (8, false) }) (N := some 122) #[true, true, true, true, true, true, true, true, true, true, true, true, true, true, true, true, true, true, true, true, true, true, false, false, false, false, false, false, false, false, false, false, false] rfl rfl (by kernel_rfl) (fun _ _ _ _ h => h) ?_
            apply Exists.intro
            refine ⟨Or.inl ⟨by rfl, ?_⟩, ?_⟩
            · intro w0; go_simp; try with_reducible rfl
            try simp only [Act.put, List.setIfInBounds_toArray, List.set_cons_succ, List.set_cons_zero]
            refine pureE (i := 22) (oi := { dst := some 123, op := Op.pick (Operand.tmp 109) (Operand.const (Value.bool true)) (Operand.tmp 122), type := 4, pos := "law.go:48", after := #[{ on := 8, ground := Ground.data }, { on := 21, ground := Ground.data }], guard := none }) (N := some 123) #[true, true, true, true, true, true, true, true, true, true, true, true, true, true, true, true, true, true, true, true, true, true, true, false, false, false, false, false, false, false, false, false, false] rfl rfl (by kernel_rfl) (fun _ _ _ _ h => h) ?_
            apply Exists.intro
            refine ⟨Or.inl ⟨by rfl, ?_⟩, ?_⟩
            · intro w0; go_simp; try with_reducible rfl
            try simp only [Act.put, List.setIfInBounds_toArray, List.set_cons_succ, List.set_cons_zero]
            refine pureE (i := 23) (oi := { dst := some 124, op := Op.move (Operand.tmp 123), type := 4, pos := "law.go:48", after := #[{ on := 22, ground := Ground.data }, { on := 10, ground := Ground.chain }], guard := none }) (N := some 124) #[true, true, true, true, true, true, true, true, true, true, true, true, true, true, true, true, true, true, true, true, true, true, true, true, false, false, false, false, false, false, false, false, false] rfl rfl (by kernel_rfl) (fun _ _ _ _ h => h) ?_
            apply Exists.intro
            refine ⟨Or.inl ⟨by rfl, ?_⟩, ?_⟩
            · intro w0; go_simp; try with_reducible rfl
            try simp only [Act.put, List.setIfInBounds_toArray, List.set_cons_succ, List.set_cons_zero]
            refine pureE (i := 24) (oi := { dst := some 125, op := Op.move (Operand.tmp 5), type := 24, pos := "law.go:48", after := #[{ on := 23, ground := Ground.guard }], guard := some (23, false) }) (N := some 125) #[true, true, true, true, true, true, true, true, true, true, true, true, true, true, true, true, true, true, true, true, true, true, true, true, true, false, false, false, false, false, false, false, false] rfl rfl (by kernel_rfl) (fun _ _ _ _ h => h) ?_
            apply Exists.intro
            refine ⟨Or.inl ⟨by rfl, ?_⟩, ?_⟩
            · intro w0; go_simp; try with_reducible rfl
            try simp only [Act.put, List.setIfInBounds_toArray, List.set_cons_succ, List.set_cons_zero]
            refine pureE (i := 26) (oi := { dst := some 127, op := Op.move (Operand.tmp 6), type := 39, pos := "law.go:48", after := #[{ on := 23, ground := Ground.guard }], guard := some (23, false) }) (N := some 127) #[true, true, true, true, true, true, true, true, true, true, true, true, true, true, true, true, true, true, true, true, true, true, true, true, true, false, true, false, false, false, false, false, false] rfl rfl (by kernel_rfl) (fun _ _ _ _ h => h) ?_
            apply Exists.intro
            refine ⟨Or.inl ⟨by rfl, ?_⟩, ?_⟩
            · intro w0; go_simp; try with_reducible rfl
            try simp only [Act.put, List.setIfInBounds_toArray, List.set_cons_succ, List.set_cons_zero]
            refine pureE (i := 27) (oi := { dst := some 128, op := Op.nilCheck (Operand.tmp 127), type := 0, pos := "law.go:48", after := #[{ on := 26, ground := Ground.data }, { on := 23, ground := Ground.guard }], guard := some (23, false) }) (N := some 128) #[true, true, true, true, true, true, true, true, true, true, true, true, true, true, true, true, true, true, true, true, true, true, true, true, true, false, true, true, false, false, false, false, false] rfl rfl (by kernel_rfl) (fun _ _ _ _ h => h) ?_
            apply Exists.intro
            refine ⟨Or.inl ⟨by rfl, ?_⟩, ?_⟩
            · intro w0; go_simp; try with_reducible rfl
            try simp only [Act.put, List.setIfInBounds_toArray, List.set_cons_succ, List.set_cons_zero]
            refine pureE (i := 28) (oi := { dst := some 129, op := Op.fieldAddr 47 (Operand.tmp 128) 0, type := 0, pos := "law.go:48", after := #[{ on := 27, ground := Ground.data }, { on := 23, ground := Ground.guard }], guard := some (23, false) }) (N := some 129) #[true, true, true, true, true, true, true, true, true, true, true, true, true, true, true, true, true, true, true, true, true, true, true, true, true, false, true, true, true, false, false, false, false] rfl rfl (by kernel_rfl) (fun _ _ _ _ h => h) ?_
            apply Exists.intro
            refine ⟨Or.inl ⟨by rfl, ?_⟩, ?_⟩
            · intro w0; go_simp; try with_reducible rfl
            try simp only [Act.put, List.setIfInBounds_toArray, List.set_cons_succ, List.set_cons_zero]
            refine takeE (i := 29) (oi := { dst := some 130, op := Op.load 22 (Operand.tmp 129), type := 22, pos := "law.go:48", after := #[{ on := 28, ground := Ground.data }, { on := 23, ground := Ground.guard }], guard := some (23, false) }) (N := some 130) #[true, true, true, true, true, true, true, true, true, true, true, true, true, true, true, true, true, true, true, true, true, true, true, true, true, false, true, true, true, true, false, false, false] rfl rfl (by kernel_rfl) (fun _ _ _ _ h => h) hS ?_
            apply Exists.intro
            refine ⟨Or.inl ⟨by rfl, fun w0 h => rn_blk1 (v := .slice A0 n c0) rfl rfl (by kernel_rfl) h rfl⟩, ?_⟩
            try simp only [Act.put, List.setIfInBounds_toArray, List.set_cons_succ, List.set_cons_zero]
            refine Go.Proofs.YtbkfhieadnfndaaW.PrintLast.one_ (i := 25) (oi := { dst := some 126, op := Op.call { callee := Callee.value (Operand.func 19), args := #[Operand.tmp 125], argTypes := #[24] }, type := 22, pos := "law.go:48", after := #[{ on := 24, ground := Ground.data }, { on := 23, ground := Ground.chain }, { on := 23, ground := Ground.guard }], guard := some (23, false) }) (N := some 126) #[true, true, true, true, true, true, true, true, true, true, true, true, true, true, true, true, true, true, true, true, true, true, true, true, true, true, true, true, true, true, false, false, false] rfl rfl (by kernel_rfl) (by decide) (fun K hK => ?_)
            rw [if_pos (by rfl)]
            refine wk_enter 19 #[.pointer (some ⟨q, 0, none⟩)] ?_ ?_
            · go_simp
            refine (ring_all (hw.front 3 rfl)).mono ?_
            clear hw; rintro e w ⟨v1, rfl, hw⟩; (try simp only [List.set_cons_succ, List.set_cons_zero, List.setIfInBounds_toArray, Value.cells, List.eraseIdx_cons_succ, List.eraseIdx_cons_zero] at hw)
            refine ⟨_, rfl, ?_⟩
            refine hK.out _ _ (hw.read 2 rfl) (fun hS => ?_); clear hK K; try simp only [Act.put, List.setIfInBounds_toArray, List.set_cons_succ, List.set_cons_zero]
            refine Go.Proofs.YtbkfhieadnfndaaW.PrintLast.one_ (i := 30) (oi := { dst := some 131, op := Op.call { callee := Callee.value (Operand.func 18), args := #[Operand.tmp 126, Operand.tmp 130], argTypes := #[22, 22] }, type := 4, pos := "law.go:48", after := #[{ on := 25, ground := Ground.data }, { on := 29, ground := Ground.data }, { on := 25, ground := Ground.chain }, { on := 23, ground := Ground.guard }], guard := some (23, false) }) (N := some 131) #[true, true, true, true, true, true, true, true, true, true, true, true, true, true, true, true, true, true, true, true, true, true, true, true, true, true, true, true, true, true, true, false, false] rfl rfl (by kernel_rfl) (by decide) (fun K hK => ?_)
            rw [if_pos (by rfl)]
            refine wk_enter 18 #[v1, .slice A0 n c0] ?_ ?_
            · go_simp
            refine (ref_same (Rd_row hw 0 rfl) (by rw [← N.out]; exact Rd_row hw 3 rfl) HQ.out.2.2 HQ.out.2.2 (by rw [← N.out]; omega)).mono ?_
            rintro e w1 ⟨rfl, nq2, rfl⟩
            have hw := hw.drewN nq2
            generalize w.drewN nq2 = w at hw ⊢
            rw [sameL_iff.2 rfl]
            refine ⟨_, rfl, ?_⟩
            refine hK.out _ _ (hw.read 2 rfl) (fun hS => ?_); clear hK K; try simp only [Act.put, List.setIfInBounds_toArray, List.set_cons_succ, List.set_cons_zero]
            refine pureE (i := 31) (oi := { dst := some 132, op := Op.unOp UnOp.not 4 (Operand.tmp 131), type := 4, pos := "law.go:48", after := #[{ on := 30, ground := Ground.data }, { on := 23, ground := Ground.guard }], guard := some (23, false) }) (N := some 132) #[true, true, true, true, true, true, true, true, true, true, true, true, true, true, true, true, true, true, true, true, true, true, true, true, true, true, true, true, true, true, true, true, false] rfl rfl (by kernel_rfl) (fun _ _ _ _ h => h) ?_
            apply Exists.intro
            refine ⟨Or.inl ⟨by rfl, ?_⟩, ?_⟩
            · intro w0; go_simp; try with_reducible rfl
            try simp only [Act.put, List.setIfInBounds_toArray, List.set_cons_succ, List.set_cons_zero]
            refine pureE (i := 32) (oi := { dst := some 133, op := Op.pick (Operand.tmp 124) (Operand.const (Value.bool true)) (Operand.tmp 132), type := 4, pos := "law.go:48", after := #[{ on := 23, ground := Ground.data }, { on := 31, ground := Ground.data }], guard := none }) (N := some 133) #[true, true, true, true, true, true, true, true, true, true, true, true, true, true, true, true, true, true, true, true, true, true, true, true, true, true, true, true, true, true, true, true, true] rfl rfl (by kernel_rfl) (fun _ _ _ _ h => h) ?_
            apply Exists.intro
            refine ⟨Or.inl ⟨by rfl, ?_⟩, ?_⟩
            · intro w0; go_simp; try with_reducible rfl
            try simp only [Act.put, List.setIfInBounds_toArray, List.set_cons_succ, List.set_cons_zero]
            refine Go.Proofs.YtbkfhieadnfndaaW.PrintLast.done_ (by kernel_rfl) ?_; clear hS
            go_wp2
            have hw := (((hw.del 0 rfl).del 3 rfl).front 2 rfl).front 2 rfl
            (try simp only [List.set_cons_succ, List.set_cons_zero, List.setIfInBounds_toArray, Value.cells, List.eraseIdx_cons_succ, List.eraseIdx_cons_zero] at hw)
            rw [N.out] at hw
            go_roundw
            case rel => exact ⟨k + 1, by omega, by go_num, _, (RefQ_shut HQ.out hw).front 1 rfl⟩
            case measure => simp [intOf]; omega
      · go_wp2
        go_ret
        exact ⟨rfl, hw.tail.tail⟩
end Go.Proofs.Ytbkfhieadnfndaa
