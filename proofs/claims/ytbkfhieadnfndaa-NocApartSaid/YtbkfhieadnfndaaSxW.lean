/- The reckoner in use: contracts of functions, loops, cuts; the equations that it is reckoned by. Conditions: none. -/
import Derived.Test.YtbkfhieadnfndaaSxV
import Derived.Deep.LoopGhost
set_option linter.unusedVariables false
set_option linter.unusedSimpArgs false
set_option linter.defProp false
namespace Go.Sx
open Go Go.RowKit Go.Bst Go.Proofs.YtbkfhieadnfndaaW.PrintLast

/-! ### from what is known to less -/
def entV : SV → SV → Prop
  | .g c y, x => c = true ∧ entV y x
  | y, x => y = x
def okP (bl bl' : List Blk) : SV → Prop
  | .p j _ => match find bl j, find bl' j with
    | some B, some B' => B.b = B'.b
    | _, _ => False
  | .g _ x => okP bl bl' x
  | .t2 x y => okP bl bl' x ∧ okP bl bl' y
  | .t3 x y z => okP bl bl' x ∧ okP bl bl' y ∧ okP bl bl' z
  | _ => True
def entS (bl bl' : List Blk) (s : Slots) : Slots → Prop
  | [] => True
  | x :: r => entV (get s x.1) x.2 ∧ okP bl bl' x.2 ∧ entS bl bl' s r
structure St where
  s : Slots
  bl : List Blk
  F : List HP
/-- What is known says what the state says. -/
def Ent (C : Cx) (s : Slots) (bl : List Blk) (F : List HP) (t : St) : Prop := entS bl t.bl s t.s ∧ ∀ w, Sat C.E w (pts bl ++ F) → Sat C.E w (pts t.bl ++ t.F)
def Conts (C : Cx) (r : List It) (t : St) : Prop := Cont C r t.s t.bl t.F

section
variable {C : Cx} {s : Slots} {bl : List Blk} {F : List HP} {r : List It}
theorem okP_isV {bl' : List Blk} : ∀ {x : SV} {v : Value}, okP bl bl' x → isV bl x v → isV bl' x v
  | .u, _, _, _ => trivial
  | .v _, _, _, e => e
  | .a _, _, _, e => e
  | .p k o, v, h, ⟨B, hB, e⟩ => by
    unfold okP at h
    split at h
    · rename_i B1 B2 h1 h2
      obtain rfl : B = B1 := by rw [hB] at h1; exact Option.some.inj h1
      exact ⟨B2, h2, by rw [← h]; exact e⟩
    · exact h.elim
  | .g c x, v, h, e => fun hc => okP_isV h (e hc)
  | .t2 x y, v, h, ⟨v1, v2, e, h1, h2⟩ => ⟨v1, v2, e, okP_isV h.1 h1, okP_isV h.2 h2⟩
  | .t3 x y z, v, h, ⟨v1, v2, v3, e, h1, h2, h3⟩ => ⟨v1, v2, v3, e, okP_isV h.1 h1, okP_isV h.2.1 h2, okP_isV h.2.2 h3⟩
theorem entV_isV : ∀ {y x : SV} {v : Value}, entV y x → isV bl y v → isV bl x v
  | .g c y, x, v, h, e => entV_isV h.2 (e h.1)
  | .u, x, v, h, e => by obtain rfl : SV.u = x := h; exact e
  | .v _, x, v, h, e => by obtain rfl : SV.v _ = x := h; exact e
  | .a _, x, v, h, e => by obtain rfl : SV.a _ = x := h; exact e
  | .p _ _, x, v, h, e => by obtain rfl : SV.p _ _ = x := h; exact e
  | .t2 _ _, x, v, h, e => by obtain rfl : SV.t2 _ _ = x := h; exact e
  | .t3 _ _ _, x, v, h, e => by obtain rfl : SV.t3 _ _ _ = x := h; exact e
theorem entS_ok {bl' : List Blk} {a : Act} (h : Knows bl s a) : ∀ {s' : Slots}, entS bl bl' s s' → Knows bl' s' a
  | [], _, k => trivial
  | x :: r, ⟨h1, h2, h3⟩, k => by
    unfold get
    cases e : x.1 == k with
    | true =>
      rw [cond_true]
      have := h x.1
      rw [eq_of_beq e] at this h1
      exact okP_isV h2 (entV_isV h1 this)
    | false => exact entS_ok h h3 k
theorem Ent.holds {t : St} {a : Act} {w : World} (h : Ent C s bl F t) (hs : Holds C s bl F a w) : Holds C t.s t.bl t.F a w := ⟨hs.1, hs.2.1, entS_ok hs.2.2.1 h.1, h.2 w hs.2.2.2⟩
/-- Less is known from here on. -/
theorem less (t : St) (h : Ent C s bl F t) (hc : Conts C r t) : Cont C r s bl F := fun a w hs => hc a w (h.holds hs)
/-- One of the states, at a lower measure. -/
def backTo (C : Cx) {α : Type} (S : α → St) (μ : α → Nat) (x : α) : Slots → List Blk → List HP → Prop := fun s bl F => ∃ y, Ent C s bl F (S y) ∧ μ y < μ x
theorem back_ok {α : Type} {S : α → St} {μ : α → Nat} {x : α} (y : α) (h1 : entS bl (S y).bl s (S y).s) (h2 : ∀ w, Sat C.E w (pts bl ++ F) → Sat C.E w (pts (S y).bl ++ (S y).F)) (h3 : μ y < μ x) : backTo C S μ x s bl F := ⟨y, ⟨h1, h2⟩, h3⟩
/-- One of the states. -/
def oneOf (C : Cx) {α : Type} (S : α → St) : Slots → List Blk → List HP → Prop := fun s bl F => ∃ y, Ent C s bl F (S y)
theorem one_ok {α : Type} {S : α → St} (y : α) (h1 : entS bl (S y).bl s (S y).s) (h2 : ∀ w, Sat C.E w (pts bl ++ F) → Sat C.E w (pts (S y).bl ++ (S y).F)) : oneOf C S s bl F := ⟨y, ⟨h1, h2⟩⟩
theorem ent_ok {t : St} (h1 : entS bl t.bl s t.s) (h2 : ∀ w, Sat C.E w (pts bl ++ F) → Sat C.E w (pts t.bl ++ t.F)) : Ent C s bl F t := ⟨h1, h2⟩
/-- A loop: the states at its head, and what falls from round to round. -/
theorem loop_ok {α : Type} {m : Mc} (S : α → St) (μ : α → Nat) (x0 : α) (h0 : Ent C s bl F (S x0))
    (round : ∀ x, Conts C (.code m :: .inv (backTo C S μ x) :: r) (S x)) : Cont C (.code (.loop m) :: r) s bl F := by
  intro a w hs c hc
  cases c <;> try simp only [mcOf] at hc
  case loop c1 =>
    obtain rfl := Mc.loop.inj hc
    refine wp_loop_ghost (fun n a w => ∃ x, μ x = n ∧ Holds C (S x).s (S x).bl (S x).F a w) (μ x0) ⟨x0, rfl, h0.holds hs⟩ fun n a w ⟨x, hx, hs⟩ => ?_
    refine wp_mono (round x a w hs c1 rfl) fun e a w hq => ?_
    cases e with
    | normal =>
      obtain ⟨s', bl', F', hs', y, hy, hlt⟩ := hq
      exact ⟨μ y, by omega, y, rfl, hy.holds hs'⟩
    | _ => exact hq
  case region id ops draw => cases draw <;> simp only [mcOf] at hc <;> split at hc <;> cases hc
  all_goals cases hc
/-- What comes next is shown once, for all that may come. -/
theorem join_ok {α : Type} {m : Mc} (S : α → St) (h2 : ∀ x, Conts C r (S x)) (h1 : Cont C (.code m :: .inv (oneOf C S) :: r) s bl F) : Cont C (.code m :: r) s bl F := by
  intro a w hs c hc
  refine wp_mono (h1 a w hs c hc) fun e a w hq => ?_
  cases e with
  | normal =>
    obtain ⟨s', bl', F', hs', y, hy⟩ := hq
    exact h2 y a w (hy.holds hs')
  | _ => exact hq
theorem brn_join {α : Type} {b : Bool} {x y : Mc} (S : α → St) (h3 : ∀ x, Conts C r (S x)) (h1 : b = true → Cont C (.code x :: .inv (oneOf C S) :: r) s bl F)
    (h2 : b = false → Cont C (.code y :: .inv (oneOf C S) :: r) s bl F) : brn b (Cont C (.code x :: r) s bl F) (Cont C (.code y :: r) s bl F) :=
  ⟨fun h => join_ok S h3 (h1 h), fun h => join_ok S h3 (h2 h)⟩
def argsOk (bl : List Blk) : Slots → List Value → Prop
  | [], _ => True
  | x :: r, vs => (match vs[x.1]? with
    | some v => isV bl x.2 v
    | none => False) ∧ argsOk bl r vs
theorem args_get {vs : List Value} {n : Nat} : ∀ {s : Slots}, argsOk bl s vs → ∀ k, isV bl (get s k) ((vs.toArray ++ Array.replicate n undef).getD k undef)
  | [], _, k => trivial
  | x :: r, ⟨h1, h2⟩, k => by
    unfold get
    cases e : x.1 == k with
    | false => exact args_get h2 k
    | true =>
      rw [cond_true]
      split at h1
      · rename_i v hv
        rw [eq_of_beq e] at hv
        have hlt := (List.getElem?_eq_some_iff.1 hv).1
        rw [Array.getD_eq_getD_getElem?, Array.getElem?_append_left (by simpa using hlt), List.getElem?_toArray, hv]
        exact h1
      · exact h1.elim
/-- A function's contract, from its code. -/
theorem calls_ok {P : Program} {f : FuncId} {fn : Func} {c : Code} {m : Mc} {l : List RV} {E : Env} {R : Ending → World → Prop} {vs : List Value} {w : World} (hm : P.follows .mixedOrders = true) (hf : P.funcs[f]? = some fn) (hb : fn.body = some c) (hc : mcOf P fn.ntmps c = m) (hr : resOf P fn.results.toList = some l)
    (s : Slots) (bl : List Blk) (F : List HP) (hs : Sat E w (pts bl ++ F)) (hn : vs.length ≤ fn.ntmps) (ha : argsOk bl s vs) (h : Cont ⟨P, fn, E, R, hm⟩ [.code m, .res l] s bl F) : Calls P f vs.toArray w R := by
  refine calls_of_wp hf hb ?_
  have hs' : Holds ⟨P, fn, E, R, hm⟩ s bl F { tmps := vs.toArray ++ Array.replicate (fn.ntmps - vs.toArray.size) undef, defers := [] } w := ⟨rfl, by simp; omega, args_get ha, hs⟩
  refine wp_mono (h _ _ hs' c hc) fun e a w hq => ?_
  have := hq hr
  cases e <;> exact this
/-- A call, by a contract of the callee that leaves the blocks as they are. -/
theorem call_go {K : List Blk → List HP → Prop} {f : FuncId} {vs : List Value} {d : Option Nat} {nx : List It} (h : ∀ w, Sat C.E w (pts bl ++ F) → Calls C.P f vs.toArray w fun e w' => ∃ x v F', e = .returned v ∧ valOf bl x = some v ∧ Sat C.E w' (pts bl ++ F') ∧ K bl F' ∧ Cont C nx (put s d x) bl F') :
    CallC C K f vs d nx s bl F := fun w hs => (h w hs).mono fun e w' ⟨x, v, F', h1, h2, h3, h4, h5⟩ => ⟨x, v, bl, F', h1, h2, rfl, h3, h4, h5⟩
/-- .. and all memory, and answers x. -/
theorem call_pure {K : List Blk → List HP → Prop} {f : FuncId} {vs : List Value} {d : Option Nat} {nx : List It} (x : SV) (v : Value) (hx : valOf bl x = some v) (h : ∀ w, Sat C.E w (pts bl ++ F) → Calls C.P f vs.toArray w fun e w' => e = .returned v ∧ Sat C.E w' (pts bl ++ F)) (hK : K bl F)
    (hn : Cont C nx (put s d x) bl F) : CallC C K f vs d nx s bl F := fun w hs => (h w hs).mono fun e w' ⟨h1, h2⟩ => ⟨x, v, bl, F, h1, hx, rfl, h2, hK, hn⟩
end
theorem callee_fn (f : FuncId) (as : Array Operand) (ts : Array TypeId) : Sx.callee (.call ⟨.value (.func f), as, ts⟩) .one = some (f, as.toList) := rfl
theorem callee_bi (b : Builtin) (as : Array Operand) (ts : Array TypeId) (k : Kind) : Sx.callee (.call ⟨.builtin b, as, ts⟩) k = none := rfl
theorem callee_tmp (t : Nat) (as : Array Operand) (ts : Array TypeId) (k : Kind) : Sx.callee (.call ⟨.value (.tmp t), as, ts⟩) k = none := rfl
theorem cnd_f (c x : Bool) : (bif c then x else false) = (c && x) := by cases c <;> rfl
theorem cnd_t (c x : Bool) : (bif c then true else x) = (c || x) := by cases c <;> rfl
theorem inR64 {n : Int} : inR .i64 n = (-9223372036854775808 ≤ n ∧ n ≤ 9223372036854775807) := rfl
theorem len1 (x : Value) (l : List Value) : (x :: l).length = l.length + 1 := rfl
theorem one_int (k : IntKind) (n : Int) : (Value.int k n).oneCell' = true := rfl
theorem one_bool (b : Bool) : (Value.bool b).oneCell' = true := rfl
theorem one_ptr (b : Option Addr) : (Value.pointer b).oneCell' = true := rfl
theorem one_slice (b : Option Addr) (n c : Nat) : (Value.slice b n c).oneCell' = true := rfl
theorem one_map (b : Option Nat) : (Value.map b).oneCell' = true := rfl
theorem one_str (b : ByteArray) : (Value.string b).oneCell' = true := rfl
theorem all_nil : ([] : List Value).all (·.oneCell') = true := rfl
theorem all_cons (x : Value) (l : List Value) : ((x :: l).all (·.oneCell') = true) = (x.oneCell' = true ∧ l.all (·.oneCell') = true) := by simp
theorem pack1 (v : Value) : pack [v] = v := rfl
theorem pack0 : pack [] = .tuple #[] := rfl
theorem pack2 (v u : Value) (l : List Value) : pack (v :: u :: l) = .tuple (v :: u :: l).toArray := rfl
theorem and_t (p : Prop) : (p ∧ True) = p := by simp
theorem t_and (p : Prop) : (True ∧ p) = p := by simp
theorem imp_same (p : Prop) : (p → p) = True := by simp
theorem imp_t (p : Prop) : (p → True) = True := by simp
theorem t_imp (p : Prop) : (True → p) = p := by simp
theorem f_imp (p : Prop) : ((false = true) → p) = True := by simp
theorem tt_imp (p : Prop) : ((true = true) → p) = p := by simp
end Go.Sx
