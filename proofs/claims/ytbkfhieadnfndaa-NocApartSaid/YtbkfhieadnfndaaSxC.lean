/- The reckoner: a function's code, made ready for it. Conditions: none. -/
import Derived.Test.YtbkfhieadnfndaaSx
set_option linter.unusedVariables false
namespace Go.Sx
open Go Go.RowKit Go.Bst Go.Proofs.YtbkfhieadnfndaaW.PrintLast

def fieldsOf (P : Program) (t : TypeId) : Option (Array Field) :=
  match P.underlying t with
  | some (.struct fs) => some fs
  | _ => none
def elOf (P : Program) (t : TypeId) : Option TypeId :=
  match P.underlying t with
  | some (.slice el) => some el
  | _ => none
/-- A field of one cell or more. -/
def fieldOff (P : Program) (t : TypeId) (i : Nat) : Option Nat :=
  match fieldsOf P t with
  | some fs => match fs[i]? with
    | some f => match P.info? f.type with
      | some inf => bif inf.size == 0 then none else some f.offset
      | none => none
    | none => none
  | none => none
def zeroL (P : Program) (t : TypeId) : Option (List Value) := (zeroOf P t).map (·.cells.toList)
def layL (P : Program) (t : TypeId) : Option (List (Nat × Nat)) :=
  match P.underlying t with
  | some (.struct fields) => placesC P fields.toList
  | _ => none
def ldK (P : Program) (t : TypeId) : Kind :=
  bif oneSize P t then .one else match aggSize P t with
    | some n => .agg n
    | none => .no
def kindOf (P : Program) : Op → Kind
  | .load t _ => ldK P t
  | .call c => match c.callee, c.argTypes.toList with
    | .builtin .len, [t] => match P.underlying t with
      | some (.slice e) => .sl e 0
      | some .string => .one
      | _ => .no
    | .value (.func f), _ => bif callB P f then .one else .no
    | _, _ => .no
  | .binOp .eql t _ _ _ | .binOp .neq t _ _ _ => match P.underlying t with
    | some .bool => .one
    | some (.pointer e) => bif e == P.pointee t then .off 0 else .no
    | _ => .no
  | .store t _ _ => ldK P t
  | .box t _ => ldK P t
  | .alloc t => match zeroL P t with
    | some z => .cells z true
    | none => .no
  | .build t _ => match zeroL P t, layL P t with
    | some z, some L => .lay z L
    | _, _ => .no
  | .fieldAddr t _ i => match fieldOff P t i with
    | some n => .off n
    | none => .no
  | .field t _ i => match fieldsOf P t with
    | some fs => match fs[i]? with
      | some f => bif oneSize P f.type then .part f.offset 1 true else match aggSize P f.type with
        | some n => .part f.offset n false
        | none => .no
      | none => .no
    | none => .no
  | .indexAddr t _ _ => match elOf P t with
    | some el => match (P.info? el).map (·.size) with
      | some sz => .sl el sz
      | none => .no
    | none => .no
  | _ => .no
/-- An operation made ready: its guard's slot instead of its number. -/
def mopOf (P : Program) (N : Nat) (all : Array Oper) (o : Oper) : Option Mop :=
  match o.dst with
  | some d => bif N.ble d then none else match o.guard with
    | none => some ⟨o.dst, o.op, o.type, none, kindOf P o.op⟩
    | some (j, s) => match (all[j]?).bind (·.dst) with
      | some gt => bif N.ble gt || (gt == d) then none else some ⟨o.dst, o.op, o.type, some (gt, s), kindOf P o.op⟩
      | none => none
  | none => match o.guard with
    | none => some ⟨o.dst, o.op, o.type, none, kindOf P o.op⟩
    | some (j, s) => match (all[j]?).bind (·.dst) with
      | some gt => bif N.ble gt then none else some ⟨o.dst, o.op, o.type, some (gt, s), kindOf P o.op⟩
      | none => none
def mopsOf (P : Program) (N : Nat) (all : Array Oper) : List Oper → Option (List Mop)
  | [] => some []
  | o :: r => match mopOf P N all o, mopsOf P N all r with
    | some m, some l => some (m :: l)
    | _, _ => none
/-- An order of a region that draws one: what class, and which operation. -/
def isEff : Op → Bool
  | .alloc _ | .box _ _ | .buildSlice _ _ _ | .store _ _ _ | .makeMap _ _ | .makeSlice _ _ _ | .mapUpdate _ _ _ _ | .insert _ _ _ _ | .makeChan _ _ | .mapEntry _ _ _ | .entryStore _ _ _ _ | .range _ _ | .next _ _ => true
  | .call c => match c.callee with
    | .builtin .len => false
    | .builtin .max => false
    | .builtin .min => false
    | _ => true
  | .makeFunc _ _ _ | .makeInterface _ _ => false
  | _ => false
def isRead : Op → Bool
  | .load _ _ | .lookup _ _ _ _ | .convert _ _ _ | .index _ _ _ | .slice _ _ _ _ _ | .typeAssert _ _ _ _ | .binOp _ _ _ _ _ | .unOp _ _ _ => true
  | _ => false
def takes : Op → Bool
  | .load _ _ | .lookup _ _ _ _ | .convert _ _ _ | .index _ _ _ | .typeAssert _ _ _ _ => true
  | _ => false
/-- The order is made: what is ready and no effect comes up first; then the one effect that is ready; 'ds': effects behind which nothing is kept. -/
def schedGo (P : Program) (N : Nat) (ops : Array Oper) (ds : List Nat) : Nat → Array Bool → Option (List (Cls × Mop × Nat × Array Bool))
  | 0, l => bif Region.ready .any ops l == [] then some [] else none
  | fuel + 1, l =>
    let rs := Region.ready .any ops l
    match rs.find? fun i => match ops[i]? with | some o => !isEff o.op | none => false with
    | some i => match ops[i]? with
      | some o => match mopOf P N ops o, schedGo P N ops ds fuel (l.setIfInBounds i true) with
        | some m, some r =>
          bif takes o.op then bif takeB .any ops ds l (l.setIfInBounds i true) i then some ((.R, m, i, l.setIfInBounds i true) :: r) else none
          else bif anyB .any ops l (l.setIfInBounds i true) i then some ((.P, m, i, l.setIfInBounds i true) :: r) else none
        | _, _ => none
      | none => none
    | none => match rs with
      | [] => some []
      | [i] => match ops[i]? with
        | some o => match mopOf P N ops o, schedGo P N ops ds fuel (l.setIfInBounds i true) with
          | some m, some r => some ((bif ds.contains i then .L else .D, m, i, l.setIfInBounds i true) :: r)
          | _, _ => none
        | none => none
      | _ => none
/-- The effects at the end, behind which nothing is taken. -/
def tailL : List (Cls × Mop × Nat × Array Bool) → List Nat
  | [] => []
  | (.D, _, i, _) :: r => match tailL r, r.any (fun x => match x.1 with | .R => true | .D => !(tailL r).contains x.2.2.1 | _ => false) with
    | t, false => i :: t
    | t, true => t
  | _ :: r => tailL r
/-- The last effect. -/
def lastD (l : List (Cls × Mop × Nat × Array Bool)) : List Nat :=
  match l.reverse.find? fun x => match x.1 with | .D => true | _ => false with
  | some x => [x.2.2.1]
  | none => []
def sched (P : Program) (N : Nat) (ops : Array Oper) : Option (List (Cls × Mop × Nat × Array Bool) × List Nat) :=
  match schedGo P N ops [] ops.size (Array.replicate ops.size false) with
  | some l => match tailL l with
    | [] => some (l, [])
    | ds => match schedGo P N ops ds ops.size (Array.replicate ops.size false) with
      | some l' => some (l', ds)
      | none => match schedGo P N ops (lastD l) ops.size (Array.replicate ops.size false) with
        | some l' => some (l', lastD l)
        | none => some (l, [])
  | none => none
/-- Are all that must be kept through kept by the reckoner itself (new blocks, stores)? -/
def ownB : List (Cls × Mop) → Bool
  | [] => true
  | (.D, m) :: r => (match m.op with | .alloc _ | .box _ _ => true | _ => false) && ownB r
  | _ :: r => ownB r
def mcOf (P : Program) (N : Nat) : Code → Mc
  | .skip => .skip
  | .region _ ops false => match mopsOf P N ops ops.toList with
    | some l => .reg l
    | none => .no
  | .region _ ops true => match sched P N ops with
    | some (l, ds) => .dreg (l.map fun x => (x.1, x.2.1)) ds.length (ownB (l.map fun x => (x.1, x.2.1)))
    | none => .no
  | .seq a b => .seq (mcOf P N a) (mcOf P N b)
  | .cond c a b => .cond c (mcOf P N a) (mcOf P N b)
  | .block id a => .block id (mcOf P N a)
  | .loop a => .loop (mcOf P N a)
  | .scope a => .scope (mcOf P N a)
  | .label _ => .skip
  | .exit id => .exit id
  | .ret => .ret
  | _ => .no
end Go.Sx
