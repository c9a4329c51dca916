/- A reckoner of what must be shown of a function: its words. Conditions: none. -/
import Derived.Test.YtbkfhieadnfndaaAuto
import Derived.Test.YtbkfhieadnfndaaCmp
import Derived.Scope
set_option linter.unusedVariables false
namespace Go.Sx
open Go Go.RowKit Go.Bst

/-- What is known of a slot: nothing; a value of one cell (or a tuple's part); a struct's cells; a place in a block of the list; what it is if c; pairs, triples. -/
inductive SV where
  | u
  | v (x : Value)
  | a (l : List Value)
  | p (k off : Nat)
  | g (c : Bool) (x : SV)
  | t2 (x y : SV)
  | t3 (x y z : SV)
/-- A block: its name, where it lies, its type, its cells. -/
structure Blk where
  key : Nat
  b : Nat
  T : TypeId
  cs : List Value
abbrev Slots : Type := List (Nat × SV)

def pts : List Blk → List HP
  | [] => []
  | B :: r => pt B.b (.cells B.cs.toArray B.T) :: pts r
def find : List Blk → Nat → Option Blk
  | [], _ => none
  | B :: r, k => bif B.key == k then some B else find r k
def get : Slots → Nat → SV
  | [], _ => .u
  | x :: r, k => bif x.1 == k then x.2 else get r k
def put (s : Slots) : Option Nat → SV → Slots
  | some d, x => (d, x) :: s
  | none, _ => s
def uses (k : Nat) : SV → Bool
  | .p j _ => j == k
  | .g _ x => uses k x
  | .t2 x y => uses k x || uses k y
  | .t3 x y z => uses k x || uses k y || uses k z
  | _ => false
/-- Places of a block are forgotten. -/
def lose (k : Nat) : Slots → Slots
  | [] => []
  | x :: r => (bif uses k x.2 then (x.1, .u) else x) :: lose k r
def drop (k : Nat) : List Blk → List Blk
  | [] => []
  | B :: r => bif B.key == k then drop k r else B :: drop k r
def chg (k : Nat) (cs : List Value) : List Blk → List Blk
  | [] => []
  | B :: r => bif B.key == k then ⟨B.key, B.b, B.T, cs⟩ :: r else B :: chg k cs r

def isV (bl : List Blk) : SV → Value → Prop
  | .u, _ => True
  | .v x, y => y = x
  | .a l, y => y = .agg l.toArray
  | .p k o, y => ∃ B, find bl k = some B ∧ y = .pointer (some ⟨B.b, o, none⟩)
  | .g c x, y => c = true → isV bl x y
  | .t2 x1 x2, y => ∃ v1 v2, y = .tuple #[v1, v2] ∧ isV bl x1 v1 ∧ isV bl x2 v2
  | .t3 x1 x2 x3, y => ∃ v1 v2 v3, y = .tuple #[v1, v2, v3] ∧ isV bl x1 v1 ∧ isV bl x2 v2 ∧ isV bl x3 v3
def valOf (bl : List Blk) : SV → Option Value
  | .v x => some x
  | .a l => some (.agg l.toArray)
  | .p k o => match find bl k with
    | some B => some (.pointer (some ⟨B.b, o, none⟩))
    | none => none
  | .t2 x y => match valOf bl x, valOf bl y with
    | some a, some b => some (.tuple #[a, b])
    | _, _ => none
  | .t3 x y z => match valOf bl x, valOf bl y, valOf bl z with
    | some a, some b, some c => some (.tuple #[a, b, c])
    | _, _, _ => none
  | _ => none

/-! ### operations -/
inductive Kind where
  | no
  | one
  | agg (n : Nat)
  | off (n : Nat)
  | cells (z : List Value) (one : Bool)
  | lay (z : List Value) (L : List (Nat × Nat))
  | part (off n : Nat) (one : Bool)
  | sl (el sz : Nat)
structure Mop where
  d : Option Nat
  op : Op
  tt : TypeId
  g : Option (Nat × Bool)
  k : Kind
inductive Cls where
  | P | R | D | L
inductive Mc where
  | skip
  | reg (l : List Mop)
  | dreg (l : List (Cls × Mop)) (n : Nat) (own : Bool)
  | seq (x y : Mc)
  | cond (c : Operand) (x y : Mc)
  | block (id : Nat) (x : Mc)
  | loop (x : Mc)
  | exit (id : Nat)
  | scope (x : Mc)
  | ret
  | no

def ofC : Value → SV
  | .agg cs => .a cs.toList
  | v => .v v
def ev (s : Slots) : Operand → SV
  | .tmp t => get s t
  | .const v => ofC v
  | .global g => .v (.pointer (some ⟨g, 0, none⟩))
  | .func f => .v (.func (.func f) #[] #[])
/-- What an operand is where gc holds, and what that asks. -/
def rd (s : Slots) (gc : Bool) (x : Operand) : SV × Prop :=
  match ev s x with
  | .g c y => (y, gc = true → c = true)
  | y => (y, True)

inductive Res where
  | no
  | ok (x : SV) (ob : Prop)

def inR (k : IntKind) (n : Int) : Prop := k.min ≤ n ∧ n ≤ k.max
def cmpInt : BinOp → Int → Int → Option Bool
  | .lss, p, q => some (decide (p < q))
  | .leq, p, q => some (decide (p ≤ q))
  | .gtr, p, q => some (decide (q < p))
  | .geq, p, q => some (decide (q ≤ p))
  | .eql, p, q => some (decide (p = q))
  | .neq, p, q => some (decide (p ≠ q))
  | _, _, _ => none
def arInt : BinOp → Int → Int → Option Int
  | .add, p, q => some (p + q)
  | .sub, p, q => some (p - q)
  | .mul, p, q => some (p * q)
  | _, _, _ => none
def isNilP : SV → Option Bool
  | .p _ _ => some false
  | .v (.pointer none) => some true
  | .v (.pointer (some _)) => some false
  | _ => none
def binR (kd : Kind) (op : BinOp) : SV × Prop → SV × Prop → Res
  | (.v (.int k p), o1), (.v (.int k' q), o2) =>
    match cmpInt op p q with
    | some b => .ok (.v (.bool b)) (o1 ∧ o2 ∧ k = k')
    | none => match arInt op p q with
      | some r => .ok (.v (.int k r)) (o1 ∧ o2 ∧ k = k' ∧ k = .i64 ∧ inR .i64 r)
      | none => .no
  | (.v (.bool p), o1), (.v (.bool q), o2) =>
    match kd, op with
    | .one, .eql => .ok (.v (.bool (p == q))) (o1 ∧ o2)
    | .one, .neq => .ok (.v (.bool (p != q))) (o1 ∧ o2)
    | _, _ => .no
  | (x, o1), (.v (.pointer none), o2) => match isNilP x, kd, op with
    | some b, .off _, .eql => .ok (.v (.bool b)) (o1 ∧ o2)
    | some b, .off _, .neq => .ok (.v (.bool (!b))) (o1 ∧ o2)
    | _, _, _ => .no
  | _, _ => .no
def nth : List Value → Nat → Value
  | [], _ => undef
  | x :: _, 0 => x
  | _ :: l, n + 1 => nth l n
def inb : List Value → Nat → Prop
  | [], _ => False
  | _ :: _, 0 => True
  | _ :: l, n + 1 => inb l n
def offR (n : Nat) : SV × Prop → Res
  | (.p k o, ob) => .ok (.p k (o + n)) ob
  | (.v (.pointer (some ⟨b, o, none⟩)), ob) => .ok (.v (.pointer (some ⟨b, o + n, none⟩))) ob
  | _ => .no
def partR (off n : Nat) (one : Bool) : SV × Prop → Res
  | (.a l, ob) => bif one then .ok (.v (nth l off)) (ob ∧ inb l off) else .ok (.a ((l.drop off).take n)) (ob ∧ off + n ≤ l.length)
  | _ => .no
def pickR : SV × Prop → SV × Prop → SV × Prop → Res
  | (.v (.bool c), o), (x, o1), (y, o2) => match x, y with
    | .v (.bool a), .v (.bool b) => .ok (.v (.bool (bif c then a else b))) (o ∧ (c = true → o1) ∧ (c = false → o2))
    | .v a, .v b => .ok (.v (bif c then a else b)) (o ∧ (c = true → o1) ∧ (c = false → o2))
    | _, _ => .no
  | _, _, _ => .no
def notR : SV × Prop → Res
  | (.v (.bool c), o) => .ok (.v (.bool (!c))) o
  | _ => .no
def nilR : SV × Prop → Res
  | (.p k o, ob) => .ok (.p k o) ob
  | (.v (.pointer (some a)), ob) => .ok (.v (.pointer (some a))) ob
  | _ => .no
def lenR (k : Kind) (r : SV × Prop) : Res :=
  match k with
  | .sl _ _ => match r with
    | (.v (.slice _ n _), ob) => .ok (.v (.int .i64 n)) ob
    | _ => .no
  | .one => match r with
    | (.v (.string t), ob) => .ok (.v (.int .i64 t.size)) ob
    | _ => .no
  | _ => .no
def mmR (mx : Bool) : SV × Prop → SV × Prop → Res
  | (.v (.int k p), o1), (.v (.int k' q), o2) => .ok (.v (.int k (bif mx then max p q else min p q))) (o1 ∧ o2)
  | _, _ => .no
def extR (i : Nat) : SV × Prop → Res
  | (.t2 x y, ob) => match i with
    | 0 => .ok x ob
    | 1 => .ok y ob
    | _ => .no
  | (.t3 x y z, ob) => match i with
    | 0 => .ok x ob
    | 1 => .ok y ob
    | 2 => .ok z ob
    | _ => .no
  | _ => .no
def idxR (sz : Nat) : SV × Prop → SV × Prop → Res
  | (.v (.slice (some ⟨b, o, none⟩) n _), o1), (.v (.int k i), o2) => .ok (.v (.pointer (some ⟨b, o + i.toNat * sz, none⟩))) (o1 ∧ o2 ∧ 0 ≤ i ∧ i < n)
  | _, _ => .no
/-- A value's cells. -/
def cellsOf (bl : List Blk) : SV → Option (List Value × Prop)
  | .v x => some ([x], x.oneCell' = true)
  | .a l => some (l, l.all (·.oneCell') = true)
  | .p k o => match find bl k with
    | some B => some ([.pointer (some ⟨B.b, o, none⟩)], True)
    | none => none
  | _ => none
def layR (bl : List Blk) (s : Slots) (gc : Bool) : List (Nat × Nat) → List (Nat × Operand) → List Value → Option (List Value × Prop)
  | _, [], z => some (z, True)
  | L, (i, x) :: r, z => match L[i]?, cellsOf bl (rd s gc x).1 with
    | some (off, n), some (l, o) => match layR bl s gc L r (z.take off ++ l ++ z.drop (off + n)) with
      | some (z', ob) => some (z', (rd s gc x).2 ∧ o ∧ l.length = n ∧ off + n ≤ z.length ∧ ob)
      | none => none
    | _, _ => none

/-- An operation that hangs on its operands alone. -/
def pv (bl : List Blk) (s : Slots) (gc : Bool) (op : Op) (k : Kind) : Res :=
  match op with
  | .move x => .ok (rd s gc x).1 (rd s gc x).2
  | .assign x => .ok (rd s gc x).1 (rd s gc x).2
  | .pick c x y => pickR (rd s gc c) (rd s true x) (rd s true y)
  | .binOp op _ x y _ => binR k op (rd s gc x) (rd s gc y)
  | .unOp .not _ x => notR (rd s gc x)
  | .nilCheck x => nilR (rd s gc x)
  | .extract x i => extR i (rd s gc x)
  | .fieldAddr _ x _ => match k with
    | .off n => offR n (rd s gc x)
    | _ => .no
  | .field _ x _ => match k with
    | .part off n one => partR off n one (rd s gc x)
    | _ => .no
  | .indexAddr _ x i => match k with
    | .sl _ sz => idxR sz (rd s gc x) (rd s gc i)
    | _ => .no
  | .build _ ps => match k with
    | .lay z L => match layR bl s gc L ps.toList z with
      | some (l, ob) => .ok (.a l) ob
      | none => .no
    | _ => .no
  | .call c => match c.callee, c.args.toList with
    | .builtin .len, [x] => lenR k (rd s gc x)
    | .builtin .max, [x, y] => mmR true (rd s gc x) (rd s gc y)
    | .builtin .min, [x, y] => mmR false (rd s gc x) (rd s gc y)
    | _, _ => .no
  | _ => .no
/-- A load of a place in a block of the list (bk: the blocks that are read; bl: those that places speak of). -/
def rv (bk bl : List Blk) (s : Slots) (gc : Bool) (op : Op) (k : Kind) : Res :=
  match op with
  | .load _ x => match rd s gc x with
    | (.p j o, ob) => match find bk j, find bl j with
      | some B, some B' => match k with
        | .one => .ok (.v (nth B.cs o)) (ob ∧ B.b = B'.b ∧ inb B.cs o)
        | .agg n => .ok (.a ((B.cs.drop o).take n)) (ob ∧ B.b = B'.b ∧ o + n ≤ B.cs.length)
        | _ => .no
      | _, _ => .no
    | _ => .no
  | _ => .no
end Go.Sx
