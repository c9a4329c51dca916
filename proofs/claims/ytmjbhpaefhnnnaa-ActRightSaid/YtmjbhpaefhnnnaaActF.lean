/- The act of a turn in plain Lean. Conditions: none. -/
import Derived.Test.YtmjbhpaefhnnnaaActV
import Derived.Test.YtmjbhpaefhnnnaaActU
set_option linter.unusedVariables false
set_option linter.unusedSimpArgs false
namespace Go.Proofs.Ytmjbhpaefhnnnaa
open Go.RowKit Go.Bst

/-- A link. -/
structure Lkv where
  net : Int
  frm : Int
  dst : Int
def Lkv.cs (l : Lkv) : Array Value := #[.int .i64 l.net, .int .i64 l.frm, .int .i64 l.dst]
def Lkv.zero : Lkv := ⟨0, 0, 0⟩
def akind (b : List UInt8) : Nat := (tb b 0).toNat % 16
/-- The link that is taken. -/
def lkAt (ls : List Lkv) (b : List UInt8) : Lkv := if ls = [] then Lkv.zero else ls.getD ((tb b 1).toNat % ls.length) Lkv.zero
def withOp (x : Acv) (o : Opv) : Acv := { x with okind := o.kind, oloc := o.loc, on := o.n, oval := o.val, owant := o.want }
def withTm (x : Acv) (t : Tmv) : Acv := { x with tkind := t.kind, tloc := t.loc, tto := t.to, tn := t.n }
def withLink (x : Acv) (l : Lkv) : Acv := { x with net := l.net, frm := l.frm, dst := l.dst }
def actF (p : Pl) (ls : List Lkv) (b : List UInt8) : Acv :=
  if rightB p = false then Acv.zero
  else if akind b < 2 then withOp { Acv.zero with kind := 1, core := ((tb b 14).toNat : Int) % p.cores } (opF p b)
  else if akind b < 5 then { Acv.zero with kind := 2, core := ((tb b 1).toNat : Int) % p.cores }
  else if akind b < 9 then withLink { Acv.zero with kind := 3 } (lkAt ls b)
  else if akind b < 12 then { Acv.zero with kind := 4, bank := ((tb b 1).toNat : Int) % p.banks }
  else if akind b < 15 then { Acv.zero with kind := 5, bank := ((tb b 1).toNat : Int) % p.banks }
  else withTm { Acv.zero with kind := 6 } (tmP p b)
/-- The adversary's bytes. -/
def acB (p : Pl) (b : List UInt8) : List UInt8 := if rightB p = true ∧ akind b = 15 then wbP p b else []
theorem akind_lt (b : List UInt8) : akind b < 16 := Nat.mod_lt _ (by decide)
theorem actF_no {p : Pl} {ls : List Lkv} {b : List UInt8} (h : rightB p = false) : actF p ls b = Acv.zero := by unfold actF; rw [if_pos h]
theorem actF_op {p : Pl} {ls : List Lkv} {b : List UInt8} (h : rightB p = true) (k : akind b < 2) : actF p ls b = withOp { Acv.zero with kind := 1, core := ((tb b 14).toNat : Int) % p.cores } (opF p b) := by unfold actF; rw [if_neg (by simp [h]), if_pos k]
theorem actF_core {p : Pl} {ls : List Lkv} {b : List UInt8} (h : rightB p = true) (k : 2 ≤ akind b) (k2 : akind b < 5) : actF p ls b = { Acv.zero with kind := 2, core := ((tb b 1).toNat : Int) % p.cores } := by unfold actF; rw [if_neg (by simp [h]), if_neg (by omega), if_pos k2]
theorem actF_net {p : Pl} {ls : List Lkv} {b : List UInt8} (h : rightB p = true) (k : 5 ≤ akind b) (k2 : akind b < 9) : actF p ls b = withLink { Acv.zero with kind := 3 } (lkAt ls b) := by unfold actF; rw [if_neg (by simp [h]), if_neg (by omega), if_neg (by omega), if_pos k2]
theorem actF_bank {p : Pl} {ls : List Lkv} {b : List UInt8} (h : rightB p = true) (k : 9 ≤ akind b) (k2 : akind b < 12) : actF p ls b = { Acv.zero with kind := 4, bank := ((tb b 1).toNat : Int) % p.banks } := by unfold actF; rw [if_neg (by simp [h]), if_neg (by omega), if_neg (by omega), if_neg (by omega), if_pos k2]
theorem actF_eng {p : Pl} {ls : List Lkv} {b : List UInt8} (h : rightB p = true) (k : 12 ≤ akind b) (k2 : akind b < 15) : actF p ls b = { Acv.zero with kind := 5, bank := ((tb b 1).toNat : Int) % p.banks } := by unfold actF; rw [if_neg (by simp [h]), if_neg (by omega), if_neg (by omega), if_neg (by omega), if_neg (by omega), if_pos k2]
theorem actF_tm {p : Pl} {ls : List Lkv} {b : List UInt8} (h : rightB p = true) (k : akind b = 15) : actF p ls b = withTm { Acv.zero with kind := 6 } (tmP p b) := by unfold actF; rw [if_neg (by simp [h]), if_neg (by omega), if_neg (by omega), if_neg (by omega), if_neg (by omega), if_neg (by omega)]
theorem acB_no {p : Pl} {b : List UInt8} (h : rightB p = false ∨ akind b < 15) : acB p b = [] := by
  unfold acB; rw [if_neg]; rintro ⟨h1, h2⟩
  rcases h with h | h
  · rw [h] at h1; cases h1
  · omega
theorem acB_tm {p : Pl} {b : List UInt8} (h : rightB p = true) (k : akind b = 15) : acB p b = wbP p b := by unfold acB; rw [if_pos ⟨h, k⟩]
end Go.Proofs.Ytmjbhpaefhnnnaa
