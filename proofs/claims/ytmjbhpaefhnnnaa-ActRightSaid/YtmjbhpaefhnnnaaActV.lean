/- An act's cells. Conditions: none. -/
import Derived.Test.YtmjbhpaefhnnnaaActL
set_option linter.unusedVariables false
set_option linter.unusedSimpArgs false
namespace Go.Bst
open Go.RowKit
/-- An act, but for the adversary's bytes. -/
structure Acv where
  kind : Int
  core : Int
  bank : Int
  net : Int
  frm : Int
  dst : Int
  okind : Int
  oloc : Int
  on : Int
  oval : BitVec 64
  owant : BitVec 64
  tkind : Int
  tloc : Int
  tto : Int
  tn : Int
def Acv.cs (x : Acv) (v : Value) : Array Value := #[.int .i64 x.kind, .int .i64 x.core, .int .i64 x.bank, .int .i64 x.net, .int .i64 x.frm, .int .i64 x.dst, .int .i64 x.okind, .int .i64 x.oloc, .int .i64 x.on, U x.oval, U x.owant, .int .i64 x.tkind, .int .i64 x.tloc, .int .i64 x.tto, .int .i64 x.tn, v]
theorem Acv.size (x : Acv) (v : Value) : (x.cs v).size = 16 := rfl
theorem Acv.c0 (x : Acv) (v : Value) : (x.cs v)[0]? = some (.int .i64 x.kind) := rfl
theorem Acv.c1 (x : Acv) (v : Value) : (x.cs v)[1]? = some (.int .i64 x.core) := rfl
theorem Acv.c2 (x : Acv) (v : Value) : (x.cs v)[2]? = some (.int .i64 x.bank) := rfl
theorem Acv.c3 (x : Acv) (v : Value) : (x.cs v)[3]? = some (.int .i64 x.net) := rfl
theorem Acv.c4 (x : Acv) (v : Value) : (x.cs v)[4]? = some (.int .i64 x.frm) := rfl
theorem Acv.c5 (x : Acv) (v : Value) : (x.cs v)[5]? = some (.int .i64 x.dst) := rfl
theorem Acv.c6 (x : Acv) (v : Value) : (x.cs v)[6]? = some (.int .i64 x.okind) := rfl
theorem Acv.c7 (x : Acv) (v : Value) : (x.cs v)[7]? = some (.int .i64 x.oloc) := rfl
theorem Acv.c8 (x : Acv) (v : Value) : (x.cs v)[8]? = some (.int .i64 x.on) := rfl
theorem Acv.c9 (x : Acv) (v : Value) : (x.cs v)[9]? = some (U x.oval) := rfl
theorem Acv.c10 (x : Acv) (v : Value) : (x.cs v)[10]? = some (U x.owant) := rfl
theorem Acv.c11 (x : Acv) (v : Value) : (x.cs v)[11]? = some (.int .i64 x.tkind) := rfl
theorem Acv.c12 (x : Acv) (v : Value) : (x.cs v)[12]? = some (.int .i64 x.tloc) := rfl
theorem Acv.c13 (x : Acv) (v : Value) : (x.cs v)[13]? = some (.int .i64 x.tto) := rfl
theorem Acv.c14 (x : Acv) (v : Value) : (x.cs v)[14]? = some (.int .i64 x.tn) := rfl
theorem Acv.s0 (x : Acv) (v : Value) (n : Int) : (x.cs v).setIfInBounds 0 (.int .i64 n) = ({ x with kind := n } : Acv).cs v := rfl
theorem Acv.s1 (x : Acv) (v : Value) (n : Int) : (x.cs v).setIfInBounds 1 (.int .i64 n) = ({ x with core := n } : Acv).cs v := rfl
theorem Acv.s2 (x : Acv) (v : Value) (n : Int) : (x.cs v).setIfInBounds 2 (.int .i64 n) = ({ x with bank := n } : Acv).cs v := rfl
theorem Acv.one (x : Acv) {A : Option Addr} {n c : Nat} : (x.cs (.slice A n c)).all (·.oneCell') = true := by
  have e : ∀ k n, (Value.int k n).oneCell' = true := fun _ _ => rfl
  have e2 : (Value.slice A n c).oneCell' = true := rfl
  unfold Acv.cs
  simp only [List.all_toArray, List.all_cons, List.all_nil, e, e2, U_one, Bool.and_true]
def Acv.zero : Acv := ⟨0, 0, 0, 0, 0, 0, 0, 0, 0, 0, 0, 0, 0, 0, 0⟩
theorem Acv.zero_cs : Acv.zero.cs (.slice none 0 0) = #[.int .i64 0, .int .i64 0, .int .i64 0, .int .i64 0, .int .i64 0, .int .i64 0, .int .i64 0, .int .i64 0, .int .i64 0, .int .u64 0, .int .u64 0, .int .i64 0, .int .i64 0, .int .i64 0, .int .i64 0, .slice none 0 0] := by
  have e : U 0 = .int .u64 0 := (U_lit 0 (by decide)).symm
  unfold Acv.cs Acv.zero
  simp only [e]
theorem Acv.link (x : Acv) (v : Value) : (x.cs v).extract 3 (3 + 3) = #[.int .i64 x.net, .int .i64 x.frm, .int .i64 x.dst] := rfl
theorem Acv.op (x : Acv) (v : Value) : (x.cs v).extract 6 (6 + 5) = (Opv.mk x.okind x.oloc x.on x.oval x.owant).cs := by unfold Opv.cs; rfl
theorem Acv.tm (x : Acv) (v : Value) : (x.cs v).extract 11 (11 + 5) = (Tmv.mk x.tkind x.tloc x.tto x.tn).cs v := rfl
theorem Acv.setLink (x : Acv) (v : Value) (a b c : Int) : splice (x.cs v) 3 #[.int .i64 a, .int .i64 b, .int .i64 c] = ({ x with net := a, frm := b, dst := c } : Acv).cs v := rfl
theorem Acv.setOp (x : Acv) (v : Value) (o : Opv) : splice (x.cs v) 6 o.cs = ({ x with okind := o.kind, oloc := o.loc, on := o.n, oval := o.val, owant := o.want } : Acv).cs v := by unfold Opv.cs; rfl
theorem Acv.setTm (x : Acv) (v u : Value) (t : Tmv) : splice (x.cs v) 11 (t.cs u) = ({ x with tkind := t.kind, tloc := t.loc, tto := t.to, tn := t.n } : Acv).cs u := rfl
theorem Acv.x3 (x : Acv) (v : Value) : (x.cs v).extract 3 (3 + 3) = #[.int .i64 x.net, .int .i64 x.frm, .int .i64 x.dst] := rfl
theorem Acv.x6 (x : Acv) (v : Value) : (x.cs v).extract 6 (6 + 5) = (Opv.mk x.okind x.oloc x.on x.oval x.owant).cs := by unfold Opv.cs; rfl
theorem Acv.x11 (x : Acv) (v : Value) : (x.cs v).extract 11 (11 + 5) = (Tmv.mk x.tkind x.tloc x.tto x.tn).cs v := rfl
attribute [irreducible] Acv.cs
end Go.Bst
