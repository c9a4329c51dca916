/- What the queues of package ring do, function by function. Conditions: none. -/
import Derived.Test.YtbkfhieadnfndaaRows
import Derived.Test.YtbkfhieadnfndaaEq
import Derived.Test.YtbkfhieadnfndaaSlc
import Derived.Conc.LoneSelectN
set_option linter.unusedVariables false
set_option linter.unusedSimpArgs false
namespace Go.Proofs.Ytbkfhieadnfndaa
open Go.RowKit Go.Bst
attribute [local irreducible] wpList Calls Code.wp Code.wpN

def msgK : List SK := [.int .i64, .int .i64, .int .i64, .int .i64, .bool, .bool] ++ List.replicate 32 (.int .u8)
theorem msg_kinds : skinds Try.prog 9 31 = some msgK := by kernel_rfl
theorem msg_agg : aggSize Try.prog 31 = some 38 := by kernel_rfl
theorem msg_size : (Try.prog.info? 31).map (·.size) = some 38 := by kernel_rfl
def msg0 : Array Value := #[.int .i64 0, .int .i64 0, .int .i64 0, .int .i64 0, .bool false, .bool false, .int .u8 0, .int .u8 0, .int .u8 0, .int .u8 0, .int .u8 0, .int .u8 0, .int .u8 0, .int .u8 0, .int .u8 0, .int .u8 0, .int .u8 0, .int .u8 0, .int .u8 0, .int .u8 0, .int .u8 0, .int .u8 0, .int .u8 0, .int .u8 0, .int .u8 0, .int .u8 0, .int .u8 0, .int .u8 0, .int .u8 0, .int .u8 0, .int .u8 0, .int .u8 0, .int .u8 0, .int .u8 0, .int .u8 0, .int .u8 0, .int .u8 0, .int .u8 0]
theorem msg_zero : zeroOf Try.prog 31 = some (.agg msg0) := by kernel_rfl
theorem msg0_size : msg0.size = 38 := rfl
def Msg (cs : Array Value) : Prop := fitAll msgK cs.toList
theorem Msg.size {cs : Array Value} (h : Msg cs) : cs.size = 38 := by
  have := fitAll_len h
  rw [show msgK.length = 38 from rfl] at this
  simpa using this
theorem Msg.one {cs : Array Value} (h : Msg cs) : cs.all (·.oneCell') = true := by
  have := fitAll_one h
  simpa using this

theorem Msg.mem {cs : Array Value} (h : Msg cs) : ∀ u ∈ cs.toList, u.oneCell' = true := List.all_eq_true.1 (fitAll_one h)
theorem flat_mem {l : List (Array Value)} (h : ∀ x ∈ l, ∀ u ∈ x.toList, u.oneCell' = true) : ∀ u ∈ flat l, u.oneCell' = true := by
  intro u hu
  unfold flat at hu
  obtain ⟨y, hy, hu⟩ := List.mem_flatten.1 hu
  obtain ⟨x, hx, rfl⟩ := List.mem_map.1 hy
  exact h x hx u hu
theorem msg0_ok : Msg msg0 := by
  unfold Msg msgK msg0
  simp [fitAll, SK.fits, List.replicate, Array.replicate, IntKind.min, IntKind.max, IntKind.signed, IntKind.bits]

/-- A queue of so much room, with these messages in it. -/
def Queue (q room : Nat) (l : List (Array Value)) : HP := andH (l.length ≤ room ∧ room ≤ 4096 ∧ ∀ m ∈ l, Msg m) <|
  exH fun c => exH fun s => exH fun r => star [pt q (.cells #[.int .i64 room, .chan (some c)] 106 (0, 0)), pt c (.chan room (l.map Value.agg).toArray false s r false)]
theorem Queue_open {E : Env} {w : World} {q room : Nat} {l : List (Array Value)} {F : List HP} (h : Sat E w (Queue q room l :: F)) :
    (l.length ≤ room ∧ room ≤ 4096 ∧ ∀ m ∈ l, Msg m) ∧ ∃ c s r, Sat E w (pt q (.cells #[.int .i64 room, .chan (some c)] 106 (0, 0)) :: pt c (.chan room (l.map Value.agg).toArray false s r false) :: F) := by
  obtain ⟨h1, h2⟩ := h.and
  obtain ⟨c, h2⟩ := h2.ex
  obtain ⟨s, h2⟩ := h2.ex
  obtain ⟨r, h2⟩ := h2.ex
  exact ⟨h1, c, s, r, h2.flat⟩
theorem Queue_shut {E : Env} {w : World} {q room : Nat} {l : List (Array Value)} {F : List HP} {c s r : Nat} (h1 : l.length ≤ room ∧ room ≤ 4096 ∧ ∀ m ∈ l, Msg m)
    (h : Sat E w (pt q (.cells #[.int .i64 room, .chan (some c)] 106 (0, 0)) :: pt c (.chan room (l.map Value.agg).toArray false s r false) :: F)) : Sat E w (Queue q room l :: F) :=
  Sat.and_mk h1 (Sat.ex_mk c (Sat.ex_mk s (Sat.ex_mk r (Sat.fold (K := [_, _]) h))))

theorem u_Queue : Try.prog.underlying 106 = some (.struct (Try.prog.fieldsOf 106)) := by kernel_rfl

set_option maxRecDepth 100000 in
set_option maxHeartbeats 400000 in
theorem ring_put {E : Env} {w : World} {q room : Nat} {l : List (Array Value)} {F : List HP} {m : Array Value} (hw : Sat E w (Queue q room l :: F)) (hm : Msg m) (hr : l.length < room) :
    Calls Try.prog 14 #[.pointer (some ⟨q, 0, none⟩), .agg m] w fun e w' =>
      e = .returned (.int .i64 0) ∧ Sat E w' (Queue q room (l ++ [m]) :: F) := by
  obtain ⟨hq, c, s, r, hw⟩ := Queue_open hw
  have hms := hm.size
  (refine calls_of_wpN Try.func14 rfl ?_; simp only [Try.ntmps14, List.size_toArray, List.length_cons, List.length_nil, Nat.reduceAdd, Nat.reduceSub, Array.replicate_succ, Array.replicate_zero, List.push_toArray, List.append_toArray, List.nil_append, List.cons_append])
  refine wpN_seq (wpN_of_wp ?_)
  go_wp2_with (refine wl_box hw _ (by simp only [Act.eval, Act.put, List.setIfInBounds_toArray, List.set_cons_succ, List.set_cons_zero, gd_s, gd_0, Value.cells]; exact rfl) ?_; clear hw; intro b w hw; (try simp only [List.set_cons_succ, List.set_cons_zero, List.setIfInBounds_toArray, Value.cells, List.eraseIdx_cons_succ, List.eraseIdx_cons_zero] at hw))
  refine wpN_seq (wpN_of_wp ?_)
  go_wp2_with (first
    | (refine wl_load1 hw rfl 1 rfl (by decide +kernel) (by simp only [List.getElem?_toArray, List.getElem?_cons_succ, List.getElem?_cons_zero]; exact rfl) ?_)
    | (refine wl_load_all hw rfl 0 rfl (by rw [msg_agg, hms]) ?_))
  refine wpN_seq ?_
  refine wpN_send_room hw rfl _ (by simp only [Act.eval, Act.put, List.setIfInBounds_toArray, List.set_cons_succ, List.set_cons_zero, gd_s, gd_0, Value.cells]; exact rfl) 2 rfl msg_zero (by simpa using hr) ?_
  clear hw; intro w hw; (try simp only [List.set_cons_succ, List.set_cons_zero, List.setIfInBounds_toArray, Value.cells, List.eraseIdx_cons_succ, List.eraseIdx_cons_zero] at hw)
  go_wp2
  refine wpN_of_wp ?_
  go_wp2
  go_ret
  have hw := hw.tail
  rw [show (l.map Value.agg).toArray.push (.agg m) = ((l ++ [m]).map Value.agg).toArray from by simp] at hw
  refine ⟨rfl, Queue_shut ⟨by simp; omega, hq.2.1, ?_⟩ hw⟩
  intro x hx
  rcases List.mem_append.1 hx with h | h
  · exact hq.2.2 x h
  · simp at h; subst h; exact hm
set_option maxRecDepth 100000 in
set_option maxHeartbeats 400000 in
theorem ring_put_full {E : Env} {w : World} {q room : Nat} {l : List (Array Value)} {F : List HP} {m : Array Value} (hw : Sat E w (Queue q room l :: F)) (hm : Msg m) (hr : room ≤ l.length) :
    Calls Try.prog 14 #[.pointer (some ⟨q, 0, none⟩), .agg m] w fun e w' =>
      e = .returned (.int .i64 5) ∧ Sat E w' (Queue q room l :: F) := by
  obtain ⟨hq, c, s, r, hw⟩ := Queue_open hw
  have hms := hm.size
  (refine calls_of_wpN Try.func14 rfl ?_; simp only [Try.ntmps14, List.size_toArray, List.length_cons, List.length_nil, Nat.reduceAdd, Nat.reduceSub, Array.replicate_succ, Array.replicate_zero, List.push_toArray, List.append_toArray, List.nil_append, List.cons_append])
  refine wpN_seq (wpN_of_wp ?_)
  go_wp2_with (refine wl_box hw _ (by simp only [Act.eval, Act.put, List.setIfInBounds_toArray, List.set_cons_succ, List.set_cons_zero, gd_s, gd_0, Value.cells]; exact rfl) ?_; clear hw; intro b w hw; (try simp only [List.set_cons_succ, List.set_cons_zero, List.setIfInBounds_toArray, Value.cells, List.eraseIdx_cons_succ, List.eraseIdx_cons_zero] at hw))
  refine wpN_seq (wpN_of_wp ?_)
  go_wp2_with (first
    | (refine wl_load1 hw rfl 1 rfl (by decide +kernel) (by simp only [List.getElem?_toArray, List.getElem?_cons_succ, List.getElem?_cons_zero]; exact rfl) ?_)
    | (refine wl_load_all hw rfl 0 rfl (by rw [msg_agg, hms]) ?_))
  refine wpN_seq ?_
  refine wpN_send_full hw rfl _ (by simp only [Act.eval, Act.put, List.setIfInBounds_toArray, List.set_cons_succ, List.set_cons_zero, gd_s, gd_0, Value.cells]; exact rfl) 2 rfl msg_zero (by simpa using hr) ?_
  go_wp2
  refine wpN_of_wp ?_
  go_wp2
  go_ret
  exact ⟨rfl, Queue_shut hq hw.tail⟩

set_option maxRecDepth 100000 in
set_option maxHeartbeats 400000 in
theorem ring_take {E : Env} {w : World} {q room : Nat} {l : List (Array Value)} {F : List HP} {m : Array Value} (hw : Sat E w (Queue q room (m :: l) :: F)) :
    Calls Try.prog 16 #[.pointer (some ⟨q, 0, none⟩)] w fun e w' =>
      e = .returned (.tuple #[.agg m, .int .i64 0]) ∧ Sat E w' (Queue q room l :: F) := by
  obtain ⟨hq, c, s, r, hw⟩ := Queue_open hw
  have hms := (hq.2.2 m (by simp)).size
  have hmo := (hq.2.2 m (by simp)).one
  (refine calls_of_wpN Try.func16 rfl ?_; simp only [Try.ntmps16, List.size_toArray, List.length_cons, List.length_nil, Nat.reduceAdd, Nat.reduceSub, Array.replicate_succ, Array.replicate_zero, List.push_toArray, List.append_toArray, List.nil_append, List.cons_append])
  refine wpN_seq (wpN_of_wp ?_)
  go_wp2_with (refine wl_alloc hw msg_zero ?_; clear hw; intro b w hw; (try simp only [List.set_cons_succ, List.set_cons_zero, List.setIfInBounds_toArray, Value.cells, List.eraseIdx_cons_succ, List.eraseIdx_cons_zero] at hw))
  refine wpN_seq (wpN_of_wp ?_)
  go_wp2_with (refine wl_load1 hw rfl 1 rfl (by decide +kernel) (by simp only [List.getElem?_toArray, List.getElem?_cons_succ, List.getElem?_cons_zero]; exact rfl) ?_)
  refine wpN_seq ?_
  refine wpN_recv_buf hw rfl 2 rfl msg_zero (by simp) (.agg m) rfl (l.map Value.agg).toArray (by simp [List.take_of_length_le]) ?_
  clear hw; intro w hw; (try simp only [List.set_cons_succ, List.set_cons_zero, List.setIfInBounds_toArray, Value.cells, List.eraseIdx_cons_succ, List.eraseIdx_cons_zero] at hw)
  go_wp2
  refine wpN_of_wp ?_
  go_wp2_with (first
    | (refine wl_alloc hw msg_zero ?_; clear hw; intro b2 w hw; (try simp only [List.set_cons_succ, List.set_cons_zero, List.setIfInBounds_toArray, Value.cells, List.eraseIdx_cons_succ, List.eraseIdx_cons_zero] at hw))
    | (refine wl_store_all (vs := m) hw rfl 0 rfl rfl (by rw [msg_size, hms]) (by simp only [hms, msg0_size]) hmo ?_; clear hw; intro w hw; (try simp only [List.set_cons_succ, List.set_cons_zero, List.setIfInBounds_toArray, Value.cells, List.eraseIdx_cons_succ, List.eraseIdx_cons_zero] at hw))
    | (refine wl_store_all (vs := m) hw rfl 1 rfl rfl (by rw [msg_size, hms]) (by simp only [hms, msg0_size]) hmo ?_; clear hw; intro w hw; (try simp only [List.set_cons_succ, List.set_cons_zero, List.setIfInBounds_toArray, Value.cells, List.eraseIdx_cons_succ, List.eraseIdx_cons_zero] at hw))
    | (refine wl_load_all hw rfl 0 rfl (by rw [msg_agg, hms]) ?_))
  refine ret_cell_tmp rfl hw rfl 1 rfl (by rw [msg_agg, hms]) _ rfl rfl ?_
  have hw := hw.tail.tail
  exact ⟨rfl, Queue_shut ⟨by simp at hq; omega, hq.2.1, fun x hx => hq.2.2 x (by simp [hx])⟩ hw⟩
set_option maxRecDepth 100000 in
set_option maxHeartbeats 400000 in
theorem ring_take_none {E : Env} {w : World} {q room : Nat} {F : List HP} (hw : Sat E w (Queue q room [] :: F)) :
    Calls Try.prog 16 #[.pointer (some ⟨q, 0, none⟩)] w fun e w' =>
      e = .returned (.tuple #[.agg msg0, .int .i64 6]) ∧ Sat E w' (Queue q room [] :: F) := by
  obtain ⟨hq, c, s, r, hw⟩ := Queue_open hw
  (refine calls_of_wpN Try.func16 rfl ?_; simp only [Try.ntmps16, List.size_toArray, List.length_cons, List.length_nil, Nat.reduceAdd, Nat.reduceSub, Array.replicate_succ, Array.replicate_zero, List.push_toArray, List.append_toArray, List.nil_append, List.cons_append])
  refine wpN_seq (wpN_of_wp ?_)
  go_wp2_with (refine wl_alloc hw msg_zero ?_; clear hw; intro b w hw; (try simp only [List.set_cons_succ, List.set_cons_zero, List.setIfInBounds_toArray, Value.cells, List.eraseIdx_cons_succ, List.eraseIdx_cons_zero] at hw))
  refine wpN_seq (wpN_of_wp ?_)
  go_wp2_with (refine wl_load1 hw rfl 1 rfl (by decide +kernel) (by simp only [List.getElem?_toArray, List.getElem?_cons_succ, List.getElem?_cons_zero]; exact rfl) ?_)
  refine wpN_seq ?_
  refine wpN_recv_none hw rfl 2 rfl msg_zero ?_
  go_wp2
  refine wpN_of_wp ?_
  go_wp2_with (refine wl_store_all (vs := msg0) hw rfl 0 rfl rfl msg_size rfl (Msg.one msg0_ok) ?_; clear hw; intro w hw; (try simp only [List.set_cons_succ, List.set_cons_zero, List.setIfInBounds_toArray, Value.cells, List.eraseIdx_cons_succ, List.eraseIdx_cons_zero] at hw))
  refine ret_cell_tmp rfl hw rfl 0 rfl msg_agg _ rfl rfl ?_
  exact ⟨rfl, Queue_shut hq hw.tail⟩
theorem u_chan : Try.prog.underlying 104 = some (.chan .both 31) := by kernel_rfl
theorem ring_new_at {E : Env} {w : World} {F : List HP} {r : Int} (hw : Sat E w F) (n : Int) (h0 : 0 ≤ n) (h1 : n ≤ 4096) (hn : (r < 0 ∧ n = 0) ∨ (0 ≤ r ∧ r ≤ 4096 ∧ n = r) ∨ (4096 < r ∧ n = 4096)) :
    Calls Try.prog 13 #[.int .i64 r] w fun e w' => ∃ q : Nat,
      e = .returned (.pointer (some ⟨q, 0, none⟩)) ∧ Sat E w' (Queue q n.toNat [] :: F) := by
  have fin : ∀ {q c : Nat} {w : World}, Sat E w (pt q (.cells #[.int .i64 n, .chan (some c)] 106 (0, 0)) :: pt c (.chan n.toNat #[] false 0 0 false) :: F) → Sat E w (Queue q n.toNat [] :: F) := by
    intro q c w hw
    refine Queue_shut (c := c) (s := 0) (r := 0) ⟨by simp, by omega, by simp⟩ ?_
    rw [show ((n.toNat : Nat) : Int) = n from by omega]
    exact hw
  have Fin := Kp.mk @fin
  clear fin
  rcases hn with ⟨hr, rfl⟩ | ⟨ha, hb, rfl⟩ | ⟨hr, rfl⟩
  all_goals
    go_enter Try.func13, Try.ntmps13
    go_wp2_with (first
      | (refine wl_makeChan hw rfl u_chan (by omega) 72 (by kernel_rfl) (by omega) (by omega) ?_; clear hw; intro c w hw)
      | (refine wl_box hw _ (by simp only [Act.eval, Act.put, List.setIfInBounds_toArray, List.set_cons_succ, List.set_cons_zero, gd_s, gd_0, Value.cells]; exact rfl) ?_; clear hw; intro q w hw; (try simp only [List.set_cons_succ, List.set_cons_zero, List.setIfInBounds_toArray, Value.cells, List.eraseIdx_cons_succ, List.eraseIdx_cons_zero] at hw)))
    go_ret
    exact ⟨_, rfl, Fin.out hw⟩
theorem ring_new {E : Env} {w : World} {F : List HP} {r : Int} (hw : Sat E w F) :
    Calls Try.prog 13 #[.int .i64 r] w fun e w' => ∃ q : Nat,
      e = .returned (.pointer (some ⟨q, 0, none⟩)) ∧ Sat E w' (Queue q (min (max r 0) 4096).toNat [] :: F) :=
  ring_new_at hw _ (by omega) (by omega) (by omega)

set_option maxRecDepth 100000 in
set_option maxHeartbeats 400000 in
theorem ring_len {E : Env} {w : World} {q room : Nat} {l : List (Array Value)} {F : List HP} (hw : Sat E w (Queue q room l :: F)) :
    Calls Try.prog 15 #[.pointer (some ⟨q, 0, none⟩)] w fun e w' =>
      e = .returned (.int .i64 l.length) ∧ w' = w := by
  obtain ⟨hq, c, s, r, hw⟩ := Queue_open hw
  have hlen := fun ty => Conc.run_len_chan (P := Try.prog) 104 ty u_chan (hw.read 1 rfl)
  go_enter Try.func15, Try.ntmps15
  go_wp2_with (refine wl_load1 hw rfl 0 rfl (by decide +kernel) (by simp only [List.getElem?_toArray, List.getElem?_cons_succ, List.getElem?_cons_zero]; exact rfl) ?_)
  go_ret
  exact ⟨by simp, rfl⟩
set_option maxRecDepth 100000 in
set_option maxHeartbeats 400000 in
theorem ring_room {E : Env} {w : World} {q room : Nat} {l : List (Array Value)} {F : List HP} (hw : Sat E w (Queue q room l :: F)) :
    Calls Try.prog 17 #[.pointer (some ⟨q, 0, none⟩)] w fun e w' =>
      e = .returned (.int .i64 (room - l.length)) ∧ ∃ n, w' = w.drewN n := by
  obtain ⟨hq, c, s, r, hw⟩ := Queue_open hw
  have hlen := fun ty n => Conc.run_len_chan (P := Try.prog) (w := w.drewN n) 104 ty u_chan (hw.read 1 rfl)
  have h0 : w.cell? ⟨q, 0, none⟩ = some (.int .i64 room) := cell_of_row _ _ _ _ _ _ (hw.read 0 rfl)
  have h1 : w.cell? ⟨q, 1, none⟩ = some (.chan (some c)) := cell_of_row _ _ _ _ _ _ (hw.read 0 rfl)
  have b1 : (0 : Int) ≤ l.length := by omega
  have b2 : (l.length : Int) ≤ room := by omega
  have b3 : (room : Int) ≤ 4096 := by omega
  go_enter Try.func17, Try.ntmps17
  go_wp2
  go_quiet (fail)
  go_wp2
  go_ret
  exact ⟨by simp, _, rfl⟩
end Go.Proofs.Ytbkfhieadnfndaa
