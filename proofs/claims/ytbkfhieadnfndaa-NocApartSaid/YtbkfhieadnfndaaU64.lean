/- Numbers of 64 bits and bytes as values: the laws of their operations. Conditions: none. -/
import Derived.Test.YtbkfhieadnfndaaAuto
set_option linter.unusedVariables false
set_option linter.unusedSimpArgs false
namespace Go.Bst
open Go.RowKit

def U (x : BitVec 64) : Value := .int .u64 (x.toNat : Int)
def Y (c : UInt8) : Value := .int .u8 (c.toNat : Int)
theorem U_one (x : BitVec 64) : (U x).oneCell' = true := rfl
theorem Y_one (x : UInt8) : (Y x).oneCell' = true := rfl
theorem U_cells (x : BitVec 64) : (U x).cells = #[U x] := rfl
theorem Y_cells (x : UInt8) : (Y x).cells = #[Y x] := rfl
theorem U_lit (n : Nat) (h : n < 18446744073709551616) : Value.int .u64 (n : Int) = U (BitVec.ofNat 64 n) := by
  unfold U
  rw [BitVec.toNat_ofNat, Nat.mod_eq_of_lt h]
theorem Y_lit (n : Nat) (h : n < 256) : Value.int .u8 (n : Int) = Y (UInt8.ofNat n) := by
  unfold Y
  rw [show (UInt8.ofNat n).toNat = n from by simp; omega]
theorem U_inj {x y : BitVec 64} (h : U x = U y) : x = y := by
  unfold U at h
  injection h with _ h
  exact BitVec.eq_of_toNat_eq (by omega)
theorem Y_inj {x y : UInt8} (h : Y x = Y y) : x = y := by
  unfold Y at h
  injection h with _ h
  exact UInt8.toNat_inj.1 (by omega)
theorem U_of {n : Int} (h0 : 0 ≤ n) (h1 : n < 18446744073709551616) : Value.int .u64 n = U (BitVec.ofInt 64 n) := by
  unfold U
  congr 1
  rw [BitVec.toNat_ofInt]
  omega
theorem Y_of {n : Int} (h0 : 0 ≤ n) (h1 : n < 256) : Value.int .u8 n = Y (UInt8.ofNat n.toNat) := by
  obtain ⟨k, rfl⟩ := Int.eq_ofNat_of_zero_le h0
  rw [Y_lit k (by omega)]
  rfl
theorem wrap_u64 (n : Int) : IntKind.u64.wrap n = n % 18446744073709551616 := by simp [IntKind.wrap, IntKind.bits, IntKind.signed]
section
variable {P : Program} {w : World} {o : Oper} {a : Act} {x y : Operand} {t yt : TypeId} {p q : BitVec 64}
theorem wrapU (n : Int) : Value.int .u64 (IntKind.u64.wrap n) = U (BitVec.ofInt 64 n) := by
  unfold U
  congr 1
  rw [wrap_u64, BitVec.toNat_ofInt]
  omega
theorem ofInt_toNat (p : BitVec 64) : BitVec.ofInt 64 (p.toNat : Int) = p := by simp
theorem rn_uadd (ho : o.op = .binOp .add t x y yt) (hx : a.eval x = U p) (hy : a.eval y = U q) : (execOp a.eval o).run P w = .ok (.value (U (p + q))) w := by
  rw [show U (p + q) = Value.int .u64 (IntKind.u64.wrap ((p.toNat : Int) + q.toNat)) from by rw [wrapU]; congr 1]
  unfold execOp
  simp [ho, hx, hy, U, eqGuard, binOp, Op.intArith]
theorem rn_usub (ho : o.op = .binOp .sub t x y yt) (hx : a.eval x = U p) (hy : a.eval y = U q) : (execOp a.eval o).run P w = .ok (.value (U (p - q))) w := by
  rw [show U (p - q) = Value.int .u64 (IntKind.u64.wrap ((p.toNat : Int) - q.toNat)) from by
    rw [wrapU]; congr 1
    apply BitVec.eq_of_toNat_eq
    have h1 := p.isLt
    have h2 := q.isLt
    rw [BitVec.toNat_sub, BitVec.toNat_ofInt]
    omega]
  unfold execOp
  simp [ho, hx, hy, U, eqGuard, binOp, Op.intArith]
theorem rn_umul (ho : o.op = .binOp .mul t x y yt) (hx : a.eval x = U p) (hy : a.eval y = U q) : (execOp a.eval o).run P w = .ok (.value (U (p * q))) w := by
  rw [show U (p * q) = Value.int .u64 (IntKind.u64.wrap ((p.toNat : Int) * q.toNat)) from by rw [wrapU]; congr 1]
  unfold execOp
  simp [ho, hx, hy, U, eqGuard, binOp, Op.intArith]
theorem bits_back (r : BitVec 64) : Value.int .u64 (IntKind.u64.wrap (r.toNat : Int)) = U r := by rw [wrapU, ofInt_toNat]
theorem rn_uxor (ho : o.op = .binOp .xor t x y yt) (hx : a.eval x = U p) (hy : a.eval y = U q) : (execOp a.eval o).run P w = .ok (.value (U (p ^^^ q))) w := by
  rw [← bits_back (p ^^^ q)]
  have e1 := ofInt_toNat p
  have e2 := ofInt_toNat q
  unfold execOp
  simp only [ho, hx, hy, U, Sem.run_bind, eqGuard]
  simp only [binOp, Op.intBits, IntKind.bits, e1, e2]
  rfl
theorem rn_uor (ho : o.op = .binOp .or t x y yt) (hx : a.eval x = U p) (hy : a.eval y = U q) : (execOp a.eval o).run P w = .ok (.value (U (p ||| q))) w := by
  rw [← bits_back (p ||| q)]
  have e1 := ofInt_toNat p
  have e2 := ofInt_toNat q
  unfold execOp
  simp only [ho, hx, hy, U, Sem.run_bind, eqGuard]
  simp only [binOp, Op.intBits, IntKind.bits, e1, e2]
  rfl
theorem rn_uand (ho : o.op = .binOp .and t x y yt) (hx : a.eval x = U p) (hy : a.eval y = U q) : (execOp a.eval o).run P w = .ok (.value (U (p &&& q))) w := by
  rw [← bits_back (p &&& q)]
  have e1 := ofInt_toNat p
  have e2 := ofInt_toNat q
  unfold execOp
  simp only [ho, hx, hy, U, Sem.run_bind, eqGuard]
  simp only [binOp, Op.intBits, IntKind.bits, e1, e2]
  rfl
theorem rn_ushl {n : Nat} {yk : IntKind} (ho : o.op = .binOp .shl t x y yt) (hx : a.eval x = U p) (hy : a.eval y = .int yk (n : Int)) : (execOp a.eval o).run P w = .ok (.value (U (p <<< n))) w := by
  have e : U (p <<< n) = Value.int .u64 (IntKind.u64.wrap ((p.toNat : Int) * 2 ^ (min n 64))) := by
    rw [wrapU]
    congr 1
    rw [show ((p.toNat : Int) * 2 ^ (min n 64)) = ((p.toNat * 2 ^ (min n 64) : Nat) : Int) from by simp, BitVec.ofInt_natCast]
    apply BitVec.eq_of_toNat_eq
    rw [BitVec.toNat_shiftLeft, BitVec.toNat_ofNat, Nat.shiftLeft_eq]
    by_cases h : n ≤ 64
    · rw [Nat.min_eq_left h]
    · rw [Nat.min_eq_right (by omega)]
      have : 2 ^ n = 2 ^ 64 * 2 ^ (n - 64) := by rw [← Nat.pow_add]; congr 1; omega
      rw [this, ← Nat.mul_assoc, Nat.mul_comm p.toNat, Nat.mul_assoc, Nat.mul_mod_right, Nat.mul_mod_right]
  rw [e]
  unfold execOp
  simp only [ho, hx, hy, U, Sem.run_bind, show (eqGuard BinOp.shl t x y (Value.int IntKind.u64 (p.toNat : Int)) (Value.int yk (n : Int))).run P w = .ok () w from by simp [eqGuard], Result.andThen_ok, Sem.run_pure]
  simp only [binOp, Op.shift, Int.toNat_natCast, show ¬ ((n : Int) < 0) from by omega, if_false, IntKind.bits, Sem.run_pure, Result.andThen_ok]
theorem rn_ushr {n : Nat} {yk : IntKind} (ho : o.op = .binOp .shr t x y yt) (hx : a.eval x = U p) (hy : a.eval y = .int yk (n : Int)) : (execOp a.eval o).run P w = .ok (.value (U (p >>> n))) w := by
  have e : U (p >>> n) = Value.int .u64 ((p.toNat : Int).fdiv (2 ^ (min n 64))) := by
    unfold U
    congr 1
    rw [Int.fdiv_eq_ediv_of_nonneg _ (by exact Int.le_of_lt (Int.pow_pos (by omega))), BitVec.toNat_ushiftRight, Nat.shiftRight_eq_div_pow]
    rw [show ((2 : Int) ^ (min n 64)) = ((2 ^ (min n 64) : Nat) : Int) from by simp, ← Int.natCast_ediv]
    congr 1
    by_cases h : n ≤ 64
    · rw [Nat.min_eq_left h]
    · rw [Nat.min_eq_right (by omega), Nat.div_eq_of_lt p.isLt, Nat.div_eq_of_lt (Nat.lt_of_lt_of_le p.isLt (Nat.pow_le_pow_right (by omega) (by omega)))]
  rw [e]
  unfold execOp
  simp only [ho, hx, hy, U, Sem.run_bind, show (eqGuard BinOp.shr t x y (Value.int IntKind.u64 (p.toNat : Int)) (Value.int yk (n : Int))).run P w = .ok () w from by simp [eqGuard], Result.andThen_ok, Sem.run_pure]
  simp only [binOp, Op.shift, Int.toNat_natCast, show ¬ ((n : Int) < 0) from by omega, if_false, IntKind.bits, Sem.run_pure, Result.andThen_ok]
theorem toNat_beq (p q : BitVec 64) : ((p.toNat : Int) == (q.toNat : Int)) = (p == q) := by
  rw [Bool.eq_iff_iff]
  simp only [beq_iff_eq]
  constructor
  · intro h; exact BitVec.eq_of_toNat_eq (by omega)
  · rintro rfl; rfl
theorem rn_ueql (ho : o.op = .binOp .eql t x y yt) (hx : a.eval x = U p) (hy : a.eval y = U q) (b : Bool) (hb : (p == q) = b) : (execOp a.eval o).run P w = .ok (.value (.bool b)) w := by
  subst hb
  rw [← toNat_beq]
  unfold execOp
  simp [ho, hx, hy, U, eqGuard, binOp, Op.intCmp]
theorem rn_uneq (ho : o.op = .binOp .neq t x y yt) (hx : a.eval x = U p) (hy : a.eval y = U q) (b : Bool) (hb : (p != q) = b) : (execOp a.eval o).run P w = .ok (.value (.bool b)) w := by
  subst hb
  rw [bne, ← toNat_beq]
  unfold execOp
  simp [ho, hx, hy, U, eqGuard, binOp, Op.intCmp, bne]
theorem rn_uint {d s : TypeId} {k : IntKind} {n : Int} (ho : o.op = .convert s d x) (hx : a.eval x = .int k n) (hs : P.underlying s = some (.int k)) (hd : P.underlying d = some (.int .u64)) : (execOp a.eval o).run P w = .ok (.value (U (BitVec.ofInt 64 n))) w := by
  rw [← wrapU]
  unfold execOp
  simp [ho, hx, convert, run_underlying hs, run_underlying hd, Conv.intToInt]
theorem rn_ubyte {d s : TypeId} {c : UInt8} (ho : o.op = .convert s d x) (hx : a.eval x = Y c) (hs : P.underlying s = some (.int .u8)) (hd : P.underlying d = some (.int .u64)) : (execOp a.eval o).run P w = .ok (.value (U (BitVec.ofNat 64 c.toNat))) w := by
  have := rn_uint (w := w) (n := (c.toNat : Int)) ho hx hs hd
  rwa [BitVec.ofInt_natCast] at this
end
theorem U_fits (x : BitVec 64) : SK.fits (.int .u64) (U x) := ⟨_, rfl, by simp [IntKind.min, IntKind.signed], by
  have := x.isLt
  simp [IntKind.max, IntKind.signed, IntKind.bits]; omega⟩
theorem Y_fits (c : UInt8) : SK.fits (.int .u8) (Y c) := ⟨_, rfl, by simp [IntKind.min, IntKind.signed], by
  have := c.toNat_lt
  simp [IntKind.max, IntKind.signed, IntKind.bits]; omega⟩
theorem fits_U {v : Value} (h : SK.fits (.int .u64) v) : ∃ x, v = U x := by
  obtain ⟨n, rfl, h1, h2⟩ := h
  simp [IntKind.min, IntKind.max, IntKind.signed, IntKind.bits] at h1 h2
  exact ⟨_, U_of h1 (by omega)⟩
theorem fits_Y {v : Value} (h : SK.fits (.int .u8) v) : ∃ x, v = Y x := by
  obtain ⟨n, rfl, h1, h2⟩ := h
  simp [IntKind.min, IntKind.max, IntKind.signed, IntKind.bits] at h1 h2
  exact ⟨_, Y_of h1 (by omega)⟩
theorem wrap_u8 (n : Int) : IntKind.u8.wrap n = n % 256 := by simp [IntKind.wrap, IntKind.bits, IntKind.signed]
theorem rn_tobyte {P : Program} {w : World} {o : Oper} {a : Act} {x : Operand} {d s : TypeId} {k : IntKind} {n : Int} (ho : o.op = .convert s d x) (hx : a.eval x = .int k n) (hs : P.underlying s = some (.int k)) (hd : P.underlying d = some (.int .u8)) : (execOp a.eval o).run P w = .ok (.value (Y (UInt8.ofNat (n % 256).toNat))) w := by
  have e : Y (UInt8.ofNat (n % 256).toNat) = Value.int .u8 (IntKind.u8.wrap n) := by rw [wrap_u8]; exact (Y_of (by omega) (by omega)).symm
  rw [e]
  unfold execOp
  simp [ho, hx, convert, run_underlying hs, run_underlying hd, Conv.intToInt]
theorem rn_utobyte {P : Program} {w : World} {o : Oper} {a : Act} {x : Operand} {d s : TypeId} {p : BitVec 64} (ho : o.op = .convert s d x) (hx : a.eval x = U p) (hs : P.underlying s = some (.int .u64)) (hd : P.underlying d = some (.int .u8)) : (execOp a.eval o).run P w = .ok (.value (Y (UInt8.ofNat (p.toNat % 256)))) w := by
  have := rn_tobyte (w := w) (n := (p.toNat : Int)) ho hx hs hd
  rw [show (((p.toNat : Int) % 256).toNat) = p.toNat % 256 from by omega] at this
  exact this
theorem rn_yxor {P : Program} {w : World} {o : Oper} {a : Act} {x y : Operand} {t yt : TypeId} {p q : UInt8} (ho : o.op = .binOp .xor t x y yt) (hx : a.eval x = Y p) (hy : a.eval y = Y q) : (execOp a.eval o).run P w = .ok (.value (Y (p ^^^ q))) w := by
  have e1 : BitVec.ofInt 8 (p.toNat : Int) = p.toBitVec := by apply BitVec.eq_of_toNat_eq; simp
  have e2 : BitVec.ofInt 8 (q.toNat : Int) = q.toBitVec := by apply BitVec.eq_of_toNat_eq; simp
  have e3 : Y (p ^^^ q) = Value.int .u8 (IntKind.u8.wrap ((p.toBitVec ^^^ q.toBitVec).toNat : Int)) := by
    unfold Y
    congr 1
    rw [wrap_u8]
    have h := (p ^^^ q).toNat_lt
    rw [show (p.toBitVec ^^^ q.toBitVec).toNat = (p ^^^ q).toNat from by simp]
    omega
  rw [e3]
  unfold execOp
  simp only [ho, hx, hy, Y, Sem.run_bind, eqGuard]
  simp only [binOp, Op.intBits, IntKind.bits, e1, e2]
  rfl
/-- An int behind a mask of j bits. -/
theorem rn_imask {P : Program} {w : World} {o : Oper} {a : Act} {x : Operand} {t yt : TypeId} {n m : Int} (j : Nat) (hj : j < 63) (hm : m = 2 ^ j - 1) (ho : o.op = .binOp .and t x (.const (.int .i64 m)) yt) (hx : a.eval x = .int .i64 n) : (execOp a.eval o).run P w = .ok (.value (.int .i64 (n % 2 ^ j))) w := by
  have hp : (2 : Int) ^ j ≤ 2 ^ 62 := by
    have : (2 : Nat) ^ j ≤ 2 ^ 62 := Nat.pow_le_pow_right (by omega) (by omega)
    exact_mod_cast this
  have hpos : (0 : Int) < 2 ^ j := Int.pow_pos (by omega)
  have hnat : ((2 : Int) ^ j) = ((2 ^ j : Nat) : Int) := by simp
  have hm' : BitVec.ofInt 64 m = BitVec.ofNat 64 (2 ^ j - 1) := by
    rw [hm, ← BitVec.ofInt_natCast]
    congr 1
    have : 0 < 2 ^ j := Nat.two_pow_pos j
    omega
  have hpn : (2 : Nat) ^ j ≤ 2 ^ 62 := Nat.pow_le_pow_right (by omega) (by omega)
  have key : ((BitVec.ofInt 64 n &&& BitVec.ofInt 64 m).toNat : Int) = n % 2 ^ j := by
    rw [hm', BitVec.toNat_and, BitVec.toNat_ofNat, Nat.mod_eq_of_lt (by omega), Nat.and_two_pow_sub_one_eq_mod, BitVec.toNat_ofInt]
    have hdvd : (2 ^ j : Int) ∣ 2 ^ 64 := ⟨2 ^ (64 - j), by rw [← Int.pow_add]; congr 1; omega⟩
    have h64 : ((2 ^ 64 : Nat) : Int) = 2 ^ 64 := rfl
    rw [Int.natCast_emod, Int.toNat_of_nonneg (Int.emod_nonneg _ (by rw [h64]; decide)), ← hnat, h64]
    exact Int.emod_emod_of_dvd n hdvd
  have hwr : IntKind.i64.wrap (n % 2 ^ j) = n % 2 ^ j := by
    have h0 := Int.emod_nonneg n (b := 2 ^ j) (by omega)
    have h1 := Int.emod_lt_of_pos n hpos
    exact IntWalk.i64_in _ ⟨by omega, by omega⟩
  have e : Value.int .i64 (n % 2 ^ j) = Value.int .i64 (IntKind.i64.wrap ((BitVec.ofInt 64 n &&& BitVec.ofInt 64 m).toNat : Int)) := by rw [key, hwr]
  rw [e]
  unfold execOp
  have hy : a.eval (Operand.const (Value.int .i64 m)) = Value.int .i64 m := rfl
  simp only [ho, hx, hy, Sem.run_bind, eqGuard]
  rfl
theorem rn_irem {P : Program} {w : World} {o : Oper} {a : Act} {x y : Operand} {t yt : TypeId} {n m : Int} (ho : o.op = .binOp .rem t x y yt) (hx : a.eval x = .int .i64 n) (hy : a.eval y = .int .i64 m) (h0 : 0 ≤ n) (hm : 0 < m) : (execOp a.eval o).run P w = .ok (.value (.int .i64 (n % m))) w := by
  unfold execOp
  have e0 : ¬ m = 0 := by omega
  have e1 : n.tmod m = n % m := Int.tmod_eq_emod_of_nonneg h0
  have e2 : (binOp .rem t (Value.int .i64 n) (Value.int .i64 m)).run P w = .ok (.int .i64 (n % m)) w := by
    unfold binOp
    simp [Op.intDiv, e0, e1]
  have e3 : (eqGuard .rem t x y (Value.int .i64 n) (Value.int .i64 m)).run P w = .ok () w := by simp [eqGuard]
  simp only [ho, hx, hy, Sem.run_bind, e3, Result.andThen_ok, e2, Sem.run_pure]
attribute [irreducible] U Y
section
variable {P : Program} {ops : Array Oper} {Q : Exit → Act → World → Prop} {rest : List Oper} {dd : Option Tmp} {ty tt t yt s d : TypeId} {pos : String} {after : Array Edge} {a : Act} {w : World} {x y : Operand} {p q : BitVec 64} {n : Nat} {yk : IntKind}
theorem wl_uadd (hx : a.eval x = U p) (hy : a.eval y = U q) (h : wpList P ops Q rest (a.put dd (U (p + q))) w) : wpList P ops Q ({ dst := dd, op := .binOp .add t x y yt, type := tt, pos := pos, after := after, guard := none } :: rest) a w := wl_run (rn_uadd rfl hx hy) h
theorem wl_usub (hx : a.eval x = U p) (hy : a.eval y = U q) (h : wpList P ops Q rest (a.put dd (U (p - q))) w) : wpList P ops Q ({ dst := dd, op := .binOp .sub t x y yt, type := tt, pos := pos, after := after, guard := none } :: rest) a w := wl_run (rn_usub rfl hx hy) h
theorem wl_umul (hx : a.eval x = U p) (hy : a.eval y = U q) (h : wpList P ops Q rest (a.put dd (U (p * q))) w) : wpList P ops Q ({ dst := dd, op := .binOp .mul t x y yt, type := tt, pos := pos, after := after, guard := none } :: rest) a w := wl_run (rn_umul rfl hx hy) h
theorem wl_uxor (hx : a.eval x = U p) (hy : a.eval y = U q) (h : wpList P ops Q rest (a.put dd (U (p ^^^ q))) w) : wpList P ops Q ({ dst := dd, op := .binOp .xor t x y yt, type := tt, pos := pos, after := after, guard := none } :: rest) a w := wl_run (rn_uxor rfl hx hy) h
theorem wl_uor (hx : a.eval x = U p) (hy : a.eval y = U q) (h : wpList P ops Q rest (a.put dd (U (p ||| q))) w) : wpList P ops Q ({ dst := dd, op := .binOp .or t x y yt, type := tt, pos := pos, after := after, guard := none } :: rest) a w := wl_run (rn_uor rfl hx hy) h
theorem wl_uand (hx : a.eval x = U p) (hy : a.eval y = U q) (h : wpList P ops Q rest (a.put dd (U (p &&& q))) w) : wpList P ops Q ({ dst := dd, op := .binOp .and t x y yt, type := tt, pos := pos, after := after, guard := none } :: rest) a w := wl_run (rn_uand rfl hx hy) h
theorem wl_ushl (hx : a.eval x = U p) (hy : a.eval y = .int yk (n : Int)) (h : wpList P ops Q rest (a.put dd (U (p <<< n))) w) : wpList P ops Q ({ dst := dd, op := .binOp .shl t x y yt, type := tt, pos := pos, after := after, guard := none } :: rest) a w := wl_run (rn_ushl rfl hx hy) h
theorem wl_ushr (hx : a.eval x = U p) (hy : a.eval y = .int yk (n : Int)) (h : wpList P ops Q rest (a.put dd (U (p >>> n))) w) : wpList P ops Q ({ dst := dd, op := .binOp .shr t x y yt, type := tt, pos := pos, after := after, guard := none } :: rest) a w := wl_run (rn_ushr rfl hx hy) h
theorem wl_ueql (hx : a.eval x = U p) (hy : a.eval y = U q) (b : Bool) (hb : (p == q) = b) (h : wpList P ops Q rest (a.put dd (.bool b)) w) : wpList P ops Q ({ dst := dd, op := .binOp .eql t x y yt, type := tt, pos := pos, after := after, guard := none } :: rest) a w := wl_run (rn_ueql rfl hx hy b hb) h
theorem wl_uneq (hx : a.eval x = U p) (hy : a.eval y = U q) (b : Bool) (hb : (p != q) = b) (h : wpList P ops Q rest (a.put dd (.bool b)) w) : wpList P ops Q ({ dst := dd, op := .binOp .neq t x y yt, type := tt, pos := pos, after := after, guard := none } :: rest) a w := wl_run (rn_uneq rfl hx hy b hb) h
theorem wl_uint {k : IntKind} {n : Int} (hx : a.eval x = .int k n) (hs : P.underlying s = some (.int k)) (hd : P.underlying d = some (.int .u64)) (h : wpList P ops Q rest (a.put dd (U (BitVec.ofInt 64 n))) w) : wpList P ops Q ({ dst := dd, op := .convert s d x, type := tt, pos := pos, after := after, guard := none } :: rest) a w := wl_run (rn_uint rfl hx hs hd) h
theorem wl_ubyte {c : UInt8} (hx : a.eval x = Y c) (hs : P.underlying s = some (.int .u8)) (hd : P.underlying d = some (.int .u64)) (h : wpList P ops Q rest (a.put dd (U (BitVec.ofNat 64 c.toNat))) w) : wpList P ops Q ({ dst := dd, op := .convert s d x, type := tt, pos := pos, after := after, guard := none } :: rest) a w := wl_run (rn_ubyte rfl hx hs hd) h
theorem wl_ushlI {m : Int} (hx : a.eval x = U p) (hy : a.eval y = .int yk m) (hm : 0 ≤ m) (h : wpList P ops Q rest (a.put dd (U (p <<< m.toNat))) w) : wpList P ops Q ({ dst := dd, op := .binOp .shl t x y yt, type := tt, pos := pos, after := after, guard := none } :: rest) a w := wl_run (rn_ushl (n := m.toNat) rfl hx (by rw [hy]; congr 1; omega)) h
theorem wl_ushrI {m : Int} (hx : a.eval x = U p) (hy : a.eval y = .int yk m) (hm : 0 ≤ m) (h : wpList P ops Q rest (a.put dd (U (p >>> m.toNat))) w) : wpList P ops Q ({ dst := dd, op := .binOp .shr t x y yt, type := tt, pos := pos, after := after, guard := none } :: rest) a w := wl_run (rn_ushr (n := m.toNat) rfl hx (by rw [hy]; congr 1; omega)) h
theorem wl_tobyte {k : IntKind} {n : Int} (hx : a.eval x = .int k n) (hs : P.underlying s = some (.int k)) (hd : P.underlying d = some (.int .u8)) (h : wpList P ops Q rest (a.put dd (Y (UInt8.ofNat (n % 256).toNat))) w) : wpList P ops Q ({ dst := dd, op := .convert s d x, type := tt, pos := pos, after := after, guard := none } :: rest) a w := wl_run (rn_tobyte rfl hx hs hd) h
theorem wl_utobyte (hx : a.eval x = U p) (hs : P.underlying s = some (.int .u64)) (hd : P.underlying d = some (.int .u8)) (h : wpList P ops Q rest (a.put dd (Y (UInt8.ofNat (p.toNat % 256)))) w) : wpList P ops Q ({ dst := dd, op := .convert s d x, type := tt, pos := pos, after := after, guard := none } :: rest) a w := wl_run (rn_utobyte rfl hx hs hd) h
theorem wl_yxor {c d : UInt8} (hx : a.eval x = Y c) (hy : a.eval y = Y d) (h : wpList P ops Q rest (a.put dd (Y (c ^^^ d))) w) : wpList P ops Q ({ dst := dd, op := .binOp .xor t x y yt, type := tt, pos := pos, after := after, guard := none } :: rest) a w := wl_run (rn_yxor rfl hx hy) h
theorem wl_imask {n m : Int} (j : Nat) (hj : j < 63) (hm : m = 2 ^ j - 1) (hx : a.eval x = .int .i64 n) (h : ∀ r : Int, Kp (r = n % 2 ^ j) → 0 ≤ r → r < 2 ^ j → wpList P ops Q rest (a.put dd (.int .i64 r)) w) : wpList P ops Q ({ dst := dd, op := .binOp .and t x (.const (.int .i64 m)) yt, type := tt, pos := pos, after := after, guard := none } :: rest) a w :=
  wl_run (rn_imask j hj hm rfl hx) (h _ (Kp.mk rfl) (Int.emod_nonneg _ (by have : (0 : Int) < 2 ^ j := Int.pow_pos (by omega); omega)) (Int.emod_lt_of_pos _ (Int.pow_pos (by omega))))
theorem wl_irem {n m : Int} (hx : a.eval x = .int .i64 n) (hy : a.eval y = .int .i64 m) (h0 : 0 ≤ n) (hm : 0 < m) (h : ∀ r : Int, Kp (r = n % m) → 0 ≤ r → r < m → wpList P ops Q rest (a.put dd (.int .i64 r)) w) : wpList P ops Q ({ dst := dd, op := .binOp .rem t x y yt, type := tt, pos := pos, after := after, guard := none } :: rest) a w :=
  wl_run (rn_irem rfl hx hy h0 hm) (h _ (Kp.mk rfl) (Int.emod_nonneg _ (by omega)) (Int.emod_lt_of_pos _ hm))
end
def ybs (l : List UInt8) : List Value := l.map Y
theorem ybs_len (l : List UInt8) : (ybs l).length = l.length := by simp [ybs]
theorem ybs_app (l m : List UInt8) : ybs (l ++ m) = ybs l ++ ybs m := by simp [ybs]
theorem ybs_one {l : List UInt8} : ∀ u ∈ ybs l, u.oneCell' = true := by
  intro u hu
  obtain ⟨c, _, rfl⟩ := List.mem_map.1 hu
  exact Y_one c
theorem fits_bytes : ∀ {n : Nat} {l : List Value}, fitAll (List.replicate n (.int .u8)) l → ∃ bs : List UInt8, l = bs.map Y ∧ bs.length = n
  | 0, [], _ => ⟨[], rfl, rfl⟩
  | 0, _ :: _, h => h.elim
  | n + 1, [], h => h.elim
  | n + 1, v :: l, h => by
    rw [List.replicate_succ] at h
    obtain ⟨c, rfl⟩ := fits_Y h.1
    obtain ⟨bs, rfl, hn⟩ := fits_bytes h.2
    exact ⟨c :: bs, rfl, by simp [hn]⟩
theorem flat_bytes : ∀ {l : List (Array Value)}, (∀ m ∈ l, fitAll [.int .u8] m.toList) → ∃ bs : List UInt8, flat l = bs.map Y ∧ bs.length = l.length
  | [], _ => ⟨[], rfl, rfl⟩
  | m :: l, h => by
    obtain ⟨bs, e1, e2⟩ := flat_bytes (l := l) (fun x hx => h x (by simp [hx]))
    obtain ⟨b1, e3, e4⟩ := fits_bytes (n := 1) (h m (by simp))
    match b1, e4 with
    | [c], _ => exact ⟨c :: bs, by
        have : flat (m :: l) = m.toList ++ flat l := by simp [flat]
        rw [this, e3, e1]; rfl, by simp [e2]⟩
end Go.Bst
