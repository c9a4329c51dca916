/- Acts in plain Lean: a turn's bytes, the operation, what an adversary does, the act. Conditions: none. -/
import Derived.Test.YtklhmlplabkoeaaPlL
import Derived.Test.YtklhmlplabkoeaaSipL
import Derived.Test.YtklhmlplabkoeaaCmp
set_option linter.unusedVariables false
set_option linter.unusedSimpArgs false
namespace Go.Bst
open Go.RowKit

def tb (b : List UInt8) (i : Nat) : UInt8 := b.getD i 0
def tl (b : List UInt8) : List UInt8 := [tb b 0, tb b 1, tb b 2, tb b 3, tb b 4, tb b 5, tb b 6, tb b 7, tb b 8, tb b 9, tb b 10, tb b 11, tb b 12, tb b 13, tb b 14, tb b 15]
theorem tl_len (b : List UInt8) : (tl b).length = 16 := rfl
theorem tl_at (b : List UInt8) {i : Nat} (h : i < 16) : (tl b)[i]? = some (tb b i) := by
  have : i = 0 ∨ i = 1 ∨ i = 2 ∨ i = 3 ∨ i = 4 ∨ i = 5 ∨ i = 6 ∨ i = 7 ∨ i = 8 ∨ i = 9 ∨ i = 10 ∨ i = 11 ∨ i = 12 ∨ i = 13 ∨ i = 14 ∨ i = 15 := by omega
  rcases this with rfl | rfl | rfl | rfl | rfl | rfl | rfl | rfl | rfl | rfl | rfl | rfl | rfl | rfl | rfl | rfl <;> rfl
/-- A turn's cells. -/
def tcs (b : List UInt8) : Array Value := (ybs (tl b)).toArray
theorem tcs_size (b : List UInt8) : (tcs b).size = 16 := rfl
theorem tcs_at (b : List UInt8) (i : Nat) (h : i < 16) : (tcs b)[i]? = some (Y (tb b i)) := by
  unfold tcs ybs
  rw [List.getElem?_toArray, List.getElem?_map, tl_at b h]; rfl
theorem tcs_one (b : List UInt8) : (tcs b).all (·.oneCell') = true := by
  rw [Array.all_eq_true_iff_forall_mem]
  intro x hx
  unfold tcs at hx
  exact ybs_one x (by simpa using hx)
theorem tcs_fill (b : List UInt8) : splice #[.int .u8 0, .int .u8 0, .int .u8 0, .int .u8 0, .int .u8 0, .int .u8 0, .int .u8 0, .int .u8 0, .int .u8 0, .int .u8 0, .int .u8 0, .int .u8 0, .int .u8 0, .int .u8 0, .int .u8 0, .int .u8 0] 0 ((ybs b).take 16).toArray = tcs b := by
  have e0 : Value.int .u8 0 = Y 0 := Y_lit 0 (by decide)
  rw [e0]
  unfold splice tcs
  apply congrArg
  apply List.ext_getElem?
  intro i
  have hl : ((ybs b).take 16).length = min 16 b.length := by simp [ybs]
  simp only [List.take_zero, List.nil_append, Nat.zero_add, List.size_toArray, hl]
  by_cases hi : i < 16
  · have e2 : (ybs (tl b))[i]? = some (Y (tb b i)) := by unfold ybs; rw [List.getElem?_map, tl_at b hi]; rfl
    rw [e2, List.getElem?_append]
    rw [hl]
    split
    · rename_i h
      rw [List.getElem?_take, if_pos hi]
      unfold ybs tb
      rw [List.getElem?_map, List.getElem?_eq_getElem (by omega), List.getD_eq_getElem?_getD, List.getElem?_eq_getElem (by omega)]; rfl
    · rename_i h
      have hb : b.length ≤ i := by omega
      have : tb b i = 0 := by unfold tb; rw [List.getD_eq_getElem?_getD, List.getElem?_eq_none hb]; rfl
      rw [this, List.getElem?_drop]
      have hm : min 16 b.length = b.length := by omega
      rw [hm, show b.length + (i - b.length) = i by omega]
      have : ∀ j, j < 16 → ([Y 0, Y 0, Y 0, Y 0, Y 0, Y 0, Y 0, Y 0, Y 0, Y 0, Y 0, Y 0, Y 0, Y 0, Y 0, Y 0] : List Value)[j]? = some (Y 0) := by
        intro j hj
        have : ([Y 0, Y 0, Y 0, Y 0, Y 0, Y 0, Y 0, Y 0, Y 0, Y 0, Y 0, Y 0, Y 0, Y 0, Y 0, Y 0] : List Value) = List.replicate 16 (Y 0) := rfl
        rw [this, List.getElem?_replicate, if_pos hj]
      exact this i hi
  · have hlen : (ybs (tl b)).length = 16 := by simp [ybs, tl_len]
    rw [List.getElem?_eq_none (l := ybs (tl b)) (by omega), List.getElem?_eq_none]
    simp only [List.length_append, hl, List.length_drop, List.length_cons, List.length_nil]
    omega
/-- The number that two bytes are. -/
def num2 (b : List UInt8) (i : Nat) : Nat := (tb b i).toNat + 256 * (tb b (i + 1)).toNat
theorem num2_lt (b : List UInt8) (i : Nat) : num2 b i < 65536 := by
  unfold num2
  have := (tb b i).toNat_lt
  have := (tb b (i + 1)).toNat_lt
  omega
theorem rd_two (c d : UInt8) : (rd [c, d]).toNat = c.toNat + 256 * d.toNat := by
  have h1 := c.toNat_lt
  have h2 := d.toNat_lt
  rw [rd_short (by simp), BitVec.toNat_ofNat]
  simp only [rdN]
  omega

/-- An operation. -/
structure Opv where
  kind : Int
  loc : Int
  n : Int
  val : BitVec 64
  want : BitVec 64
def Opv.cs (o : Opv) : Array Value := #[.int .i64 o.kind, .int .i64 o.loc, .int .i64 o.n, U o.val, U o.want]
def Opv.zero : Opv := ⟨0, 0, 0, 0, 0⟩
theorem Opv.zero_cs : Opv.zero.cs = #[.int .i64 0, .int .i64 0, .int .i64 0, .int .u64 0, .int .u64 0] := by
  have e : U 0 = .int .u64 0 := (U_lit 0 (by decide)).symm
  unfold Opv.cs Opv.zero
  simp only [e]
theorem Opv.size (o : Opv) : o.cs.size = 5 := rfl
theorem Opv.one (o : Opv) : o.cs.all (·.oneCell') = true := by
  have e : ∀ k n, (Value.int k n).oneCell' = true := fun _ _ => rfl
  unfold Opv.cs
  simp only [List.all_toArray, List.all_cons, List.all_nil, U_one, e, Bool.and_true]
theorem Opv.c0 (o : Opv) : o.cs[0]? = some (.int .i64 o.kind) := rfl
theorem Opv.c1 (o : Opv) : o.cs[1]? = some (.int .i64 o.loc) := rfl
theorem Opv.c2 (o : Opv) : o.cs[2]? = some (.int .i64 o.n) := rfl
theorem Opv.c3 (o : Opv) : o.cs[3]? = some (U o.val) := rfl
theorem Opv.c4 (o : Opv) : o.cs[4]? = some (U o.want) := rfl
theorem Opv.s0 (o : Opv) (v : Int) : o.cs.setIfInBounds 0 (.int .i64 v) = ({ o with kind := v } : Opv).cs := rfl
theorem Opv.s1 (o : Opv) (v : Int) : o.cs.setIfInBounds 1 (.int .i64 v) = ({ o with loc := v } : Opv).cs := rfl
theorem Opv.s2 (o : Opv) (v : Int) : o.cs.setIfInBounds 2 (.int .i64 v) = ({ o with n := v } : Opv).cs := rfl
theorem Opv.s3 (o : Opv) (v : BitVec 64) : o.cs.setIfInBounds 3 (U v) = ({ o with val := v } : Opv).cs := rfl
theorem Opv.s4 (o : Opv) (v : BitVec 64) : o.cs.setIfInBounds 4 (U v) = ({ o with want := v } : Opv).cs := rfl
attribute [irreducible] Opv.cs
def vb (b : List UInt8) : List UInt8 := [tb b 5, tb b 6, tb b 7, tb b 8, tb b 9, tb b 10, tb b 11, tb b 12]
def opN (b : List UInt8) : Nat := 2 ^ ((tb b 2).toNat % 4)
/-- The place, ahead of its alignment. -/
def opW (p : Pl) (b : List UInt8) : Int := (num2 b 3 : Int) % (allI p * 32)
def opF (p : Pl) (b : List UInt8) : Opv :=
  if rightB p then ⟨((tb b 1).toNat : Int) % 6 + 1, opW p b - opW p b % (opN b : Int), opN b, rd (vb b), BitVec.ofNat 64 (tb b 13).toNat⟩ else Opv.zero
theorem allI_in {p : Pl} (h : rightB p = true) : 1 ≤ allI p ∧ allI p ≤ 128 := by
  have h := (rightB_iff.1 h).1
  have h2 := shB_iff.1 h
  have e : allI p = p.pages * p.lines := by unfold allI; rw [if_pos h]
  have a1 : p.pages * 1 ≤ p.pages * p.lines := Int.mul_le_mul_of_nonneg_left h2.2.2.1.1 (by omega)
  have a2 : p.pages * p.lines ≤ p.pages * 8 := Int.mul_le_mul_of_nonneg_left h2.2.2.1.2 (by omega)
  omega
theorem allI_any (p : Pl) : 0 ≤ allI p ∧ allI p ≤ 128 := by
  cases h : shB p with
  | false => unfold allI; rw [h]; simp
  | true =>
    have h2 := shB_iff.1 h
    have e : allI p = p.pages * p.lines := by unfold allI; rw [if_pos h]
    have a1 : p.pages * 1 ≤ p.pages * p.lines := Int.mul_le_mul_of_nonneg_left h2.2.2.1.1 (by omega)
    have a2 : p.pages * p.lines ≤ p.pages * 8 := Int.mul_le_mul_of_nonneg_left h2.2.2.1.2 (by omega)
    omega
theorem opF_no {p : Pl} (h : rightB p = false) (b : List UInt8) : opF p b = Opv.zero := by unfold opF; rw [h]; rfl
theorem opF_at {p : Pl} (h : rightB p = true) {b : List UInt8} {q : Int} (hq : (num2 b 3 : Int) % (allI p * 32) = q) {r : Nat} (hr : (tb b 2).toNat % 4 = r) : opF p b = ⟨((tb b 1).toNat : Int) % 6 + 1, q - q % ((2 ^ r : Nat) : Int), ((2 ^ r : Nat) : Int), rd (vb b), BitVec.ofNat 64 (tb b 13).toNat⟩ := by
  unfold opF opW opN; rw [if_pos h, hq, hr]
/-- What an adversary does, but for its bytes. -/
structure Tmv where
  kind : Int
  loc : Int
  to : Int
  n : Int
def Tmv.cs (x : Tmv) (v : Value) : Array Value := #[.int .i64 x.kind, .int .i64 x.loc, .int .i64 x.to, .int .i64 x.n, v]
def wb (b : List UInt8) : List UInt8 := [tb b 7, tb b 8, tb b 9, tb b 10, tb b 11, tb b 12, tb b 13, tb b 14]
def tmK (b : List UInt8) : Nat := (tb b 1).toNat % 6 + 1
def tmF (b : List UInt8) : Tmv := ⟨tmK b, if tmK b = 2 then ((num2 b 2 + 65536 * (tb b 15).toNat : Nat) : Int) else (num2 b 2 : Int), num2 b 4, (tb b 6).toNat⟩
end Go.Bst
