/- Bytes and words as ints, masks of bytes. Conditions: none. -/
import Derived.Test.YtmjbhpaefhnnnaaCmp
import Derived.Test.YtmjbhpaefhnnnaaArc
set_option linter.unusedVariables false
set_option linter.unusedSimpArgs false
namespace Go.Bst
open Go.RowKit
section
variable {P : Program} {w : World} {o : Oper} {a : Act} {x y : Operand} {t yt d s : TypeId}
theorem rn_y2i {c : UInt8} (ho : o.op = .convert s d x) (hx : a.eval x = Y c) (hs : P.underlying s = some (.int .u8)) (hd : P.underlying d = some (.int .i64)) : (execOp a.eval o).run P w = .ok (.value (.int .i64 (c.toNat : Int))) w := by
  have h := c.toNat_lt
  have e := IntWalk.i64_in (c.toNat : Int) ⟨by omega, by omega⟩
  rw [← e]
  have hx' : a.eval x = Value.int .u8 (c.toNat : Int) := hx.trans (Y_num c)
  unfold execOp
  simp [ho, hx', convert, run_underlying hs, run_underlying hd, Conv.intToInt]
theorem rn_u2i {n : BitVec 64} (r : Int) (hr : (n.toNat : Int) = r) (h : r ≤ 9223372036854775807) (ho : o.op = .convert s d x) (hx : a.eval x = U n) (hs : P.underlying s = some (.int .u64)) (hd : P.underlying d = some (.int .i64)) : (execOp a.eval o).run P w = .ok (.value (.int .i64 r)) w := by
  have e := IntWalk.i64_in (n.toNat : Int) ⟨by omega, by omega⟩
  have hx' : a.eval x = Value.int .u64 (n.toNat : Int) := hx.trans (by unfold U; rfl)
  rw [← hr, ← e]
  unfold execOp
  simp [ho, hx', convert, run_underlying hs, run_underlying hd, Conv.intToInt]
theorem rn_yand {c : UInt8} {m : Int} (j : Nat) (hj : j < 8) (hm : m = 2 ^ j - 1) (r : Int) (hr : ((c.toNat % 2 ^ j : Nat) : Int) = r) (ho : o.op = .binOp .and t x (.const (.int .u8 m)) yt) (hx : a.eval x = Y c) : (execOp a.eval o).run P w = .ok (.value (.int .u8 r)) w := by
  have hx' : a.eval x = Value.int .u8 (c.toNat : Int) := hx.trans (Y_num c)
  have h := c.toNat_lt
  have hp : 2 ^ j < 256 := by
    have : (2 : Nat) ^ j < 2 ^ 8 := Nat.pow_lt_pow_right (by decide) hj
    exact this
  have h1 : 1 ≤ 2 ^ j := Nat.one_le_two_pow
  have hmn : m = ((2 ^ j - 1 : Nat) : Int) := by rw [hm, Int.natCast_sub h1]; simp
  have hle : c.toNat % 2 ^ j ≤ c.toNat := Nat.mod_le _ _
  have key : ((BitVec.ofInt 8 (c.toNat : Int) &&& BitVec.ofInt 8 m).toNat : Int) = r := by
    rw [← hr, hmn]
    congr 1
    rw [BitVec.toNat_and, BitVec.ofInt_natCast, BitVec.ofInt_natCast, BitVec.toNat_ofNat, BitVec.toNat_ofNat, Nat.mod_eq_of_lt h, Nat.mod_eq_of_lt (by omega : 2 ^ j - 1 < 2 ^ 8), Nat.and_two_pow_sub_one_eq_mod]
  have hwr : IntKind.u8.wrap r = r := by rw [wrap_u8]; omega
  have e : Value.int .u8 r = Value.int .u8 (IntKind.u8.wrap ((BitVec.ofInt 8 (c.toNat : Int) &&& BitVec.ofInt 8 m).toNat : Int)) := by rw [key, hwr]
  rw [e]
  have hy : a.eval (Operand.const (Value.int .u8 m)) = Value.int .u8 m := rfl
  unfold execOp
  simp only [ho, hx', hy, Sem.run_bind, eqGuard]
  rfl
theorem rn_cremR {p q : Int} (r : Int) (hr : p % q = r) (ho : o.op = .binOp .rem t x y yt) (hx : a.eval x = .int .i64 p) (hy : a.eval y = .int .i64 q) (h0 : 0 ≤ p) (h1 : 0 < q) : (execOp a.eval o).run P w = .ok (.value (.int .i64 r)) w := by
  subst hr; exact rn_irem ho hx hy h0 h1
theorem rn_cshl {p : Int} {yk : IntKind} (n : Nat) (hn : n ≤ 62) (r : Int) (hr : p * 2 ^ n = r) (h : -9223372036854775808 ≤ r ∧ r ≤ 9223372036854775807) (ho : o.op = .binOp .shl t x y yt) (hx : a.eval x = .int .i64 p) (hy : a.eval y = .int yk (n : Int)) : (execOp a.eval o).run P w = .ok (.value (.int .i64 r)) w := by
  have e : Value.int .i64 r = Value.int .i64 (IntKind.i64.wrap (p * 2 ^ (min n 64))) := by rw [Nat.min_eq_left (by omega), hr, IntWalk.i64_in r h]
  rw [e]
  unfold execOp
  simp only [ho, hx, hy, Sem.run_bind, show (eqGuard BinOp.shl t x y (Value.int IntKind.i64 p) (Value.int yk (n : Int))).run P w = .ok () w from by simp [eqGuard], Result.andThen_ok, Sem.run_pure]
  simp only [binOp, Op.shift, Int.toNat_natCast, show ¬ ((n : Int) < 0) from by omega, if_false, IntKind.bits, Sem.run_pure, Result.andThen_ok]
end
end Go.Bst
