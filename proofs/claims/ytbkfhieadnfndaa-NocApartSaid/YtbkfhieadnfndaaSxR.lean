/- The reckoner itself: what must be shown of a code, stopped where more must be known. Conditions: none. -/
import Derived.Test.YtbkfhieadnfndaaSxP
set_option linter.unusedVariables false
set_option linter.unusedSimpArgs false
namespace Go.Sx
open Go Go.RowKit Go.Bst Go.Proofs.YtbkfhieadnfndaaW.PrintLast

/-- Effects on the blocks of the list. -/
inductive Eff where
  | no
  | new (T : TypeId) (cs : List Value) (ob : Prop)
  | set (k : Nat) (cs : List Value) (ob : Prop)
def storeE (bl : List Blk) (kd : Kind) (rx ry : SV × Prop) : Eff :=
  match rx with
  | (.p j o, o1) => match find bl j, cellsOf bl ry.1 with
    | some B, some (l, o2) => match kd with
      | .one => match l with
        | [v] => .set j (B.cs.set o v) (o1 ∧ ry.2 ∧ o2 ∧ inb B.cs o)
        | _ => .no
      | .agg n => .set j (B.cs.take o ++ l ++ B.cs.drop (o + n)) (o1 ∧ ry.2 ∧ o2 ∧ l.length = n ∧ o + n ≤ B.cs.length)
      | _ => .no
    | _, _ => .no
  | _ => .no
def boxE (bl : List Blk) (T : TypeId) (rx : SV × Prop) : Eff :=
  match cellsOf bl rx.1 with
  | some (l, o) => .new T l (rx.2 ∧ o)
  | none => .no
def dv (bl : List Blk) (s : Slots) (op : Op) (kd : Kind) : Eff :=
  match op with
  | .alloc T => match kd with
    | .cells z _ => .new T z True
    | _ => .no
  | .box T x => boxE bl T (rd s true x)
  | .store _ x y => storeE bl kd (rd s true x) (rd s true y)
  | _ => .no
/-- What a function hands back. -/
inductive RV where
  | tmp (t : Nat)
  | one (p : Nat) (T : TypeId)
  | agg (p n : Nat) (T : TypeId)
def resOf (P : Program) : List ResultVar → Option (List RV)
  | [] => some []
  | .tmp t :: r => (resOf P r).map (.tmp t :: ·)
  | .cell p T :: r => match resOf P r with
    | some l => bif oneSize P T then some (.one p T :: l) else match aggSize P T with
      | some n => some (.agg p n T :: l)
      | none => none
    | none => none
def resV (bl : List Blk) (s : Slots) : List RV → Option (List Value × Prop)
  | [] => some ([], True)
  | .tmp t :: r => match valOf bl (rd s true (.tmp t)).1, resV bl s r with
    | some v, some (l, o) => some (v :: l, (rd s true (.tmp t)).2 ∧ o)
    | _, _ => none
  | .one p _ :: r => match get s p, resV bl s r with
    | .p j 0, some (l, o) => match find bl j with
      | some B => some (nth B.cs 0 :: l, inb B.cs 0 ∧ o)
      | none => none
    | _, _ => none
  | .agg p n _ :: r => match get s p, resV bl s r with
    | .p j 0, some (l, o) => match find bl j with
      | some B => some (.agg B.cs.toArray :: l, B.cs.length = n ∧ o)
      | none => none
    | _, _ => none
def pack : List Value → Value
  | [v] => v
  | vs => .tuple vs.toArray

inductive It where
  | code (m : Mc)
  | ops (l : List Mop)
  | opw (m : Mop) (l : List Mop)
  | dops (bk : List Blk) (Fk : List HP) (live : Bool) (l : List (Cls × Mop))
  | dopw (bk : List Blk) (Fk : List HP) (live : Bool) (c : Cls) (m : Mop) (l : List (Cls × Mop))
  | blk (id : Nat)
  | scp
  | inv (I : Slots → List Blk → List HP → Prop)
  | res (l : List RV)
structure Cx where
  P : Program
  fn : Func
  E : Env
  R : Ending → World → Prop
  hm : P.follows .mixedOrders = true

/-- A state of the walk is as is known. -/
def Holds (C : Cx) (s : Slots) (bl : List Blk) (F : List HP) (a : Act) (w : World) : Prop :=
  a.defers = [] ∧ a.tmps.size = C.fn.ntmps ∧ Knows bl s a ∧ Sat C.E w (pts bl ++ F)
def clsOk (ops : Array Oper) (ds : List Nat) (l l' : Array Bool) (i : Nat) : Cls → Prop
  | .P => anyB .any ops l l' i = true
  | .R => takeB .any ops ds l l' i = true
  | .D => readyB .any ops l l' i = true ∧ i ∉ ds
  | .L => readyB .any ops l l' i = true ∧ i ∈ ds
/-- An order of a region's operations that may be taken for all. -/
def Steps (P : Program) (N : Nat) (ops : Array Oper) (ds : List Nat) : Nat → Array Bool → List (Cls × Mop × Nat × Array Bool) → Prop
  | _, l, [] => Region.ready .any ops l = []
  | 0, _, _ :: _ => False
  | fuel + 1, l, (c, m, i, l') :: r => (∃ o, ops[i]? = some o ∧ mopOf P N ops o = some m ∧ clsOk ops ds l l' i c) ∧ Steps P N ops ds fuel l' r
abbrev bare (ann : List (Cls × Mop × Nat × Array Bool)) : List (Cls × Mop) := ann.map fun x => (x.1, x.2.1)

/-- What is left to do, as the model has it. -/
def kont (C : Cx) : List It → Exit → Act → World → Prop
  | [], _, _, _ => False
  | .res l :: _, e, a, w => resOf C.P C.fn.results.toList = some l → bodyPost C.P C.fn C.R e a w
  | .code m :: r, e, a, w => match e with
    | .normal => ∀ c, mcOf C.P C.fn.ntmps c = m → c.wp C.P (kont C r) a w
    | e => kont C r e a w
  | .ops l :: r, e, a, w => match e with
    | .normal => ∀ all rest, mopsOf C.P C.fn.ntmps all rest = some l → wpList C.P all (kont C r) rest a w
    | e => kont C r e a w
  | .opw m l :: r, e, a, w => match e with
    | .normal => ∀ all o rest, mopOf C.P C.fn.ntmps all o = some m → mopsOf C.P C.fn.ntmps all rest = some l → Region.wanted o (yielded all a.tmps) = true → wpList C.P all (kont C r) (o :: rest) a w
    | e => kont C r e a w
  | .dops bk Fk live l :: r, e, a, w => match e with
    | .normal => (live = true → Sat C.E w (pts bk ++ Fk)) → ∀ ops ds fuel listed ann, bare ann = l → Steps C.P C.fn.ntmps ops ds fuel listed ann → wpAnyLast C.P .any ops (kont C r) (fun w => Sat C.E w (pts bk ++ Fk)) ds fuel listed a w
    | e => kont C r e a w
  | .dopw bk Fk live c m l :: r, e, a, w => match e with
    | .normal => (live = true → Sat C.E w (pts bk ++ Fk)) → ∀ ops ds fuel listed ann o i l', bare ann = l → Steps C.P C.fn.ntmps ops ds (fuel + 1) listed ((c, m, i, l') :: ann) → ops[i]? = some o → Region.wanted o (yielded ops a.tmps) = true → wpAnyLast C.P .any ops (kont C r) (fun w => Sat C.E w (pts bk ++ Fk)) ds (fuel + 1) listed a w
    | e => kont C r e a w
  | .blk id :: r, e, a, w => Exit.inBlock id (kont C r) e a w
  | .scp :: r, e, a, w => Exit.noGoto (kont C r) e a w
  | .inv I :: r, e, a, w => match e with
    | .normal => ∃ s bl F, Holds C s bl F a w ∧ I s bl F
    | e => kont C r e a w
/-- From here on all goes well. -/
def Cont (C : Cx) (r : List It) (s : Slots) (bl : List Blk) (F : List HP) : Prop := ∀ a w, Holds C s bl F a w → kont C r .normal a w

/-! ### what is asked where the reckoner stops -/
def brn (c : Bool) (A B : Prop) : Prop := (c = true → A) ∧ (c = false → B)
theorem brn_true (A B : Prop) : brn true A B = A := by simp [brn]
theorem brn_false (A B : Prop) : brn false A B = B := by simp [brn]
def kb (bl : List Blk) : List (Nat × Nat) := bl.map fun B => (B.key, B.b)
/-- Where S must be kept: it is. -/
def Keep (C : Cx) (bk : List Blk) (Fk : List HP) (bl : List Blk) (F : List HP) : Prop := ∀ w, Sat C.E w (pts bl ++ F) → Sat C.E w (pts bk ++ Fk)
def evs (bl : List Blk) (s : Slots) (a : Act) : List Operand → Prop
  | [] => True
  | .const _ :: r => evs bl s a r
  | x :: r => (match valOf bl (ev s x) with
    | some v => a.eval x = v
    | none => match ev s x with
      | .g c y => match valOf bl y with
        | some v => c = true → a.eval x = v
        | none => True
      | _ => True) ∧ evs bl s a r
def opsOf (op : Op) : List Operand :=
  match op with
  | .call c => match c.callee with
    | .value f => f :: c.args.toList
    | .invoke r _ => r :: c.args.toList
    | .builtin _ => c.args.toList
  | op => op.operands.toList
/-- A call. -/
def CallC (C : Cx) (K : List Blk → List HP → Prop) (f : FuncId) (vs : List Value) (d : Option Nat) (nx : List It) (s : Slots) (bl : List Blk) (F : List HP) : Prop :=
  ∀ w, Sat C.E w (pts bl ++ F) → Calls C.P f vs.toArray w fun e w' => ∃ x v bl' F', e = .returned v ∧ valOf bl' x = some v ∧ kb bl' = kb bl ∧ Sat C.E w' (pts bl' ++ F') ∧ K bl' F' ∧ Cont C nx (put s d x) bl' F'
/-- An operation that reads. -/
def ReadC (C : Cx) (bk : List Blk) (Fk : List HP) (m : Mop) (nx : List It) (s : Slots) (bl : List Blk) (F : List HP) : Prop :=
  ∃ x v, valOf bl x = some v ∧ (∀ a w, evs bl s a (opsOf m.op) → Sat C.E w (pts bk ++ Fk) → Ans C.P m.op m.tt a w v) ∧ Cont C nx (put s m.d x) bl F
/-- Any other operation. -/
def RawC (C : Cx) (K : List Blk → List HP → Prop) (m : Mop) (nx : List It) (s : Slots) (bl : List Blk) (F : List HP) : Prop :=
  ∀ a w Q, evs bl s a (opsOf m.op) → Sat C.E w (pts bl ++ F) → Oper.wp C.P { dst := m.d, op := m.op, type := m.tt, pos := "", after := #[], guard := none } a w
    (fun a' w' => ∃ x v bl' F', a' = a.put m.d v ∧ valOf bl' x = some v ∧ kb bl' = kb bl ∧ Sat C.E w' (pts bl' ++ F') ∧ K bl' F' ∧ Cont C nx (put s m.d x) bl' F') Q
def vals (bl : List Blk) (s : Slots) : List Operand → Option (List Value × Prop)
  | [] => some ([], True)
  | x :: r => match valOf bl (rd s true x).1, vals bl s r with
    | some v, some (l, o) => some (v :: l, (rd s true x).2 ∧ o)
    | _, _ => none
def callee (op : Op) (k : Kind) : Option (FuncId × List Operand) :=
  match op with
  | .call c => match c.callee, k with
    | .value (.func f), .one => some (f, c.args.toList)
    | _, _ => none
  | _ => none
def gs : Bool → Bool → Bool
  | true, b => b
  | false, b => !b
def toBlk (id : Nat) : List It → List It
  | [] => []
  | .blk j :: r => bif j == id then r else toBlk id r
  | .res _ :: _ => []
  | _ :: r => toBlk id r
def toRes : List It → List It
  | [] => []
  | .res l :: r => .res l :: r
  | _ :: r => toRes r
def pvr (bk bl : List Blk) (s : Slots) (gc : Bool) (op : Op) (k : Kind) : Res :=
  match pv bl s gc op k with
  | .ok x ob => .ok x ob
  | .no => rv bk bl s gc op k
def nodupB : List Blk → Bool
  | [] => true
  | B :: r => (match find r B.key with | some _ => false | none => true) && nodupB r
/-- The blocks that are kept are still there, as they were. -/
def subB (bl : List Blk) : List Blk → Prop
  | [] => True
  | B :: r => find bl B.key = some B ∧ subB bl r
def anyK : List Blk → List HP → Prop := fun _ _ => True

/-- THE RECKONER: what must be shown, so that all goes well. -/
def run (C : Cx) : Nat → List It → Slots → List Blk → List HP → Prop
  | 0, r, s, bl, F => Cont C r s bl F
  | _ + 1, [], _, _, _ => False
  | _ + 1, .res l :: _, s, bl, F => match resV bl s l with
    | some (vs, ob) => ob ∧ ∀ w, Sat C.E w (pts bl ++ F) → C.R (.returned (pack vs)) w
    | none => False
  | n + 1, .code .skip :: r, s, bl, F => run C n r s bl F
  | n + 1, .code (.reg l) :: r, s, bl, F => run C n (.ops l :: r) s bl F
  | n + 1, .code (.dreg l k own) :: r, s, bl, F => match own with
    | true => nodupB bl = true ∧ run C n (.dops bl F true l :: r) s bl F
    | false => Cont C (.code (.dreg l k own) :: r) s bl F
  | n + 1, .code (.seq x y) :: r, s, bl, F => run C n (.code x :: .code y :: r) s bl F
  | n + 1, .code (.cond c x y) :: r, s, bl, F => match rd s true c with
    | (.v (.bool b), ob) => ob ∧ brn b (Cont C (.code x :: r) s bl F) (Cont C (.code y :: r) s bl F)
    | _ => False
  | n + 1, .code (.block id x) :: r, s, bl, F => run C n (.code x :: .blk id :: r) s bl F
  | n + 1, .code (.loop x) :: r, s, bl, F => Cont C (.code (.loop x) :: r) s bl F
  | n + 1, .code (.exit id) :: r, s, bl, F => run C n (toBlk id r) s bl F
  | n + 1, .code (.scope x) :: r, s, bl, F => run C n (.code x :: .scp :: r) s bl F
  | n + 1, .code .ret :: r, s, bl, F => run C n (toRes r) s bl F
  | n + 1, .code .no :: r, s, bl, F => False
  | n + 1, .blk _ :: r, s, bl, F => run C n r s bl F
  | n + 1, .scp :: r, s, bl, F => run C n r s bl F
  | n + 1, .inv I :: r, s, bl, F => I s bl F
  | n + 1, .ops [] :: r, s, bl, F => run C n r s bl F
  | n + 1, .ops (m :: l) :: r, s, bl, F => match m.g with
    | none => run C n (.opw m l :: r) s bl F
    | some (g, sn) => match rd s true (.tmp g) with
      | (.v (.bool b), og) => match pvr bl bl s (gs sn b) m.op m.k with
        | .ok x ob => og ∧ (gs sn b = true → ob) ∧ run C n (.ops l :: r) (put s m.d (.g (gs sn b) x)) bl F
        | .no => og ∧ brn (gs sn b) (Cont C (.opw m l :: r) ((g, .v (.bool sn)) :: s) bl F) (Cont C (.ops l :: r) (put ((g, .v (.bool (!sn))) :: s) m.d .u) bl F)
      | _ => False
  | n + 1, .opw m l :: r, s, bl, F => match pvr bl bl s true m.op m.k with
    | .ok x ob => ob ∧ run C n (.ops l :: r) (put s m.d x) bl F
    | .no => match dv bl s m.op m.k with
      | .new T cs ob => match m.d with
        | some d => ob ∧ ∀ b, run C n (.ops l :: r) ((d, .p d 0) :: lose d s) (⟨d, b, T, cs⟩ :: drop d bl) F
        | none => False
      | .set k cs ob => ob ∧ run C n (.ops l :: r) (put s m.d .u) (chg k cs bl) F
      | .no => match callee m.op m.k with
        | some (f, xs) => match vals bl s xs with
          | some (vs, ob) => ob ∧ CallC C anyK f vs m.d (.ops l :: r) s bl F
          | none => False
        | none => bif isRead m.op then ReadC C bl F m (.ops l :: r) s bl F else RawC C anyK m (.ops l :: r) s bl F
  | n + 1, .dops bk Fk live [] :: r, s, bl, F => run C n r s bl F
  | n + 1, .dops bk Fk live ((c, m) :: l) :: r, s, bl, F => match m.g with
    | none => run C n (.dopw bk Fk live c m l :: r) s bl F
    | some (g, sn) => match rd s true (.tmp g) with
      | (.v (.bool b), og) => match c with
        | .P => match pv bl s (gs sn b) m.op m.k with
          | .ok x ob => og ∧ (gs sn b = true → ob) ∧ run C n (.dops bk Fk live l :: r) (put s m.d (.g (gs sn b) x)) bl F
          | .no => og ∧ brn (gs sn b) (Cont C (.dopw bk Fk live c m l :: r) ((g, .v (.bool sn)) :: s) bl F) (Cont C (.dops bk Fk live l :: r) (put ((g, .v (.bool (!sn))) :: s) m.d .u) bl F)
        | .R => match live with
          | true => match rv bk bl s (gs sn b) m.op m.k with
            | .ok x ob => og ∧ (gs sn b = true → ob) ∧ run C n (.dops bk Fk true l :: r) (put s m.d (.g (gs sn b) x)) bl F
            | .no => og ∧ brn (gs sn b) (Cont C (.dopw bk Fk true c m l :: r) ((g, .v (.bool sn)) :: s) bl F) (Cont C (.dops bk Fk true l :: r) (put ((g, .v (.bool (!sn))) :: s) m.d .u) bl F)
          | false => False
        | .D => match live with
          | true => og ∧ brn (gs sn b) (Cont C (.dopw bk Fk true c m l :: r) ((g, .v (.bool sn)) :: s) bl F) (Cont C (.dops bk Fk true l :: r) (put ((g, .v (.bool (!sn))) :: s) m.d .u) bl F)
          | false => False
        | .L => og ∧ brn (gs sn b) (Cont C (.dopw bk Fk live c m l :: r) ((g, .v (.bool sn)) :: s) bl F) (Cont C (.dops bk Fk false l :: r) (put ((g, .v (.bool (!sn))) :: s) m.d .u) bl F)
      | _ => False
  | n + 1, .dopw bk Fk live c m l :: r, s, bl, F => match c with
    | .P => match pv bl s true m.op m.k with
      | .ok x ob => ob ∧ run C n (.dops bk Fk live l :: r) (put s m.d x) bl F
      | .no => ∃ x v, valOf bl x = some v ∧ (∀ a w, evs bl s a (opsOf m.op) → Ans C.P m.op m.tt a w v) ∧ Cont C (.dops bk Fk live l :: r) (put s m.d x) bl F
    | .R => match live with
      | true => match rv bk bl s true m.op m.k with
        | .ok x ob => ob ∧ run C n (.dops bk Fk true l :: r) (put s m.d x) bl F
        | .no => ReadC C bk Fk m (.dops bk Fk true l :: r) s bl F
      | false => False
    | .D => match live with
      | true => match dv bl s m.op m.k with
        | .new T cs ob => match m.d with
          | some d => ob ∧ ∀ b, Keep C bk Fk (⟨d, b, T, cs⟩ :: drop d bl) F ∧ run C n (.dops bk Fk true l :: r) ((d, .p d 0) :: lose d s) (⟨d, b, T, cs⟩ :: drop d bl) F
          | none => False
        | .set k cs ob => ob ∧ Keep C bk Fk (chg k cs bl) F ∧ run C n (.dops bk Fk true l :: r) (put s m.d .u) (chg k cs bl) F
        | .no => match callee m.op m.k with
          | some (f, xs) => match vals bl s xs with
            | some (vs, ob) => ob ∧ CallC C (Keep C bk Fk) f vs m.d (.dops bk Fk true l :: r) s bl F
            | none => False
          | none => RawC C (Keep C bk Fk) m (.dops bk Fk true l :: r) s bl F
      | false => False
    | .L => match dv bl s m.op m.k with
      | .new T cs ob => match m.d with
        | some d => ob ∧ ∀ b, run C n (.dops bk Fk false l :: r) ((d, .p d 0) :: lose d s) (⟨d, b, T, cs⟩ :: drop d bl) F
        | none => False
      | .set k cs ob => ob ∧ run C n (.dops bk Fk false l :: r) (put s m.d .u) (chg k cs bl) F
      | .no => match callee m.op m.k with
        | some (f, xs) => match vals bl s xs with
          | some (vs, ob) => ob ∧ CallC C anyK f vs m.d (.dops bk Fk false l :: r) s bl F
          | none => False
        | none => RawC C anyK m (.dops bk Fk false l :: r) s bl F
end Go.Sx
