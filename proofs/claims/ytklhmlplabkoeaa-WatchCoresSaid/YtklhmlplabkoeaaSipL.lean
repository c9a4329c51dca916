/- The sums of package sip in plain Lean. Conditions: none. -/
import Derived.Test.YtklhmlplabkoeaaU64
set_option linter.unusedVariables false
set_option linter.unusedSimpArgs false
namespace Go.Bst
open Go.RowKit

structure Q4 where
  a : BitVec 64
  b : BitVec 64
  c : BitVec 64
  d : BitVec 64
def Q4.cs (x : Q4) : Array Value := #[U x.a, U x.b, U x.c, U x.d]
theorem Q4.size (x : Q4) : x.cs.size = 4 := rfl
theorem Q4.one (x : Q4) : x.cs.all (·.oneCell') = true := by simp [Q4.cs, U_one]
def Q4.round (x : Q4) : Q4 :=
  let a := x.a + x.b
  let b := x.b.rotateLeft 13 ^^^ a
  let a := a.rotateLeft 32
  let c := x.c + x.d
  let d := x.d.rotateLeft 16 ^^^ c
  let a := a + d
  let d := d.rotateLeft 21 ^^^ a
  let c := c + b
  let b := b.rotateLeft 17 ^^^ c
  let c := c.rotateLeft 32
  ⟨a, b, c, d⟩
def Q4.mix (x : Q4) (m : BitVec 64) : Q4 :=
  let y := (Q4.mk x.a x.b x.c (x.d ^^^ m)).round.round
  ⟨y.a ^^^ m, y.b, y.c, y.d⟩
def Q4.fin (x : Q4) (m : BitVec 64) : BitVec 64 :=
  let y := x.mix m
  let y := (Q4.mk y.a y.b (y.c ^^^ 255#64) y.d).round.round.round.round
  y.a ^^^ y.b ^^^ y.c ^^^ y.d

def rounds : Nat → Q4 → Q4
  | 0, x => x
  | k + 1, x => (rounds k x).round
theorem fin_eq (x : Q4) (m : BitVec 64) : x.fin m = (rounds 4 (Q4.mk (x.mix m).a (x.mix m).b ((x.mix m).c ^^^ 255#64) (x.mix m).d)).a ^^^ (rounds 4 (Q4.mk (x.mix m).a (x.mix m).b ((x.mix m).c ^^^ 255#64) (x.mix m).d)).b ^^^ (rounds 4 (Q4.mk (x.mix m).a (x.mix m).b ((x.mix m).c ^^^ 255#64) (x.mix m).d)).c ^^^ (rounds 4 (Q4.mk (x.mix m).a (x.mix m).b ((x.mix m).c ^^^ 255#64) (x.mix m).d)).d := rfl
def rdN : List UInt8 → Nat
  | [] => 0
  | c :: l => c.toNat + 256 * rdN l
theorem rdN_snoc (l : List UInt8) (c : UInt8) : rdN (l ++ [c]) = rdN l + 256 ^ l.length * c.toNat := by
  induction l with
  | nil => simp [rdN]
  | cons x l ih =>
    simp only [List.cons_append, rdN, ih, List.length_cons, Nat.pow_succ, Nat.mul_add]
    rw [Nat.mul_comm (256 ^ l.length) 256, Nat.mul_assoc]; omega
theorem rdN_lt (l : List UInt8) : rdN l < 256 ^ l.length := by
  induction l with
  | nil => simp [rdN]
  | cons x l ih =>
    have hx : x.toNat < 256 := x.toNat_lt
    simp only [rdN, List.length_cons, Nat.pow_succ]
    omega
/-- The number that (the first eight) ybs are. -/
def rd (l : List UInt8) : BitVec 64 := BitVec.ofNat 64 (rdN (l.take 8))
theorem rd_short {l : List UInt8} (h : l.length ≤ 8) : rd l = BitVec.ofNat 64 (rdN l) := by unfold rd; rw [List.take_of_length_le h]
theorem pow256 (k : Nat) : 256 ^ k = 2 ^ (8 * k) := by rw [Nat.pow_mul]
theorem or_step (n c k : Nat) (hn : n < 256 ^ k) (hc : c < 256) (hk : k < 8) : BitVec.ofNat 64 n ||| (BitVec.ofNat 64 c <<< (8 * k)) = BitVec.ofNat 64 (n + 256 ^ k * c) := by
  apply BitVec.eq_of_toNat_eq
  have hk' : 256 ^ k * 256 ≤ 2 ^ 64 := by
    rw [← Nat.pow_succ, pow256]
    exact Nat.pow_le_pow_right (by omega) (by omega)
  have h1 : n < 2 ^ 64 := by omega
  have h2 : c < 2 ^ 64 := by omega
  have h3 : 256 ^ k * c ≤ 256 ^ k * 255 := Nat.mul_le_mul_left _ (by omega)
  have h4 : n + 256 ^ k * c < 2 ^ 64 := by omega
  rw [BitVec.toNat_or, BitVec.toNat_shiftLeft, BitVec.toNat_ofNat, BitVec.toNat_ofNat, BitVec.toNat_ofNat, Nat.mod_eq_of_lt h1, Nat.mod_eq_of_lt h2, Nat.mod_eq_of_lt h4, Nat.shiftLeft_eq, ← pow256, Nat.mul_comm c, Nat.mod_eq_of_lt (by omega)]
  rw [pow256, Nat.or_comm, ← Nat.two_pow_add_eq_or_of_lt (by rw [← pow256]; exact hn)]
  omega
theorem rd_snoc {l : List UInt8} {c : UInt8} (h : l.length < 8) : rd l ||| (BitVec.ofNat 64 c.toNat <<< (8 * l.length)) = rd (l ++ [c]) := by
  rw [rd_short (by omega), rd_short (by simp; omega), rdN_snoc]
  exact or_step _ _ _ (rdN_lt l) c.toNat_lt h
theorem rd_cons {l : List UInt8} {c : UInt8} (h : l.length < 8) : rd l * 256#64 + BitVec.ofNat 64 c.toNat = rd (c :: l) := by
  rw [rd_short (by omega), rd_short (by simp; omega)]
  simp only [rdN]
  rw [show (256#64) = BitVec.ofNat 64 256 from rfl, ← BitVec.ofNat_mul, ← BitVec.ofNat_add]
  congr 1; omega

structure Hst where
  x : Q4
  left : List UInt8
def Hst.put (s : Hst) (c : UInt8) : Hst := if s.left.length = 7 then ⟨s.x.mix (rd (s.left ++ [c])), []⟩ else ⟨s.x, s.left ++ [c]⟩
def Hst.take (s : Hst) (l : List UInt8) : Hst := l.foldl Hst.put s
def key0 (k : List UInt8) : Q4 := ⟨rd (k.take 8) ^^^ 0x736f6d6570736575#64, rd (k.drop 8) ^^^ 0x646f72616e646f6d#64, rd (k.take 8) ^^^ 0x6c7967656e657261#64, rd (k.drop 8) ^^^ 0x7465646279746573#64⟩
theorem Hst.take_app (s : Hst) (l m : List UInt8) : s.take (l ++ m) = (s.take l).take m := by unfold Hst.take; rw [List.foldl_append]
theorem Hst.put_lt {s : Hst} (h : s.left.length < 8) (c : UInt8) : (s.put c).left.length < 8 := by unfold Hst.put; split <;> simp <;> omega
theorem Hst.take_lt {s : Hst} (h : s.left.length < 8) (l : List UInt8) : (s.take l).left.length < 8 := by
  induction l generalizing s with
  | nil => exact h
  | cons c l ih => exact ih (Hst.put_lt h c)
theorem Hst.take_short {x : Q4} {l m : List UInt8} (h : l.length + m.length < 8) : (Hst.mk x l).take m = ⟨x, l ++ m⟩ := by
  induction m generalizing l with
  | nil => simp [Hst.take]
  | cons c m ih =>
    simp only [List.length_cons] at h
    have : (Hst.mk x l).take (c :: m) = (Hst.mk x (l ++ [c])).take m := by
      show List.foldl Hst.put ((Hst.mk x l).put c) m = _
      unfold Hst.put
      rw [if_neg (by simp; omega)]
      rfl
    rw [this, ih (by simp; omega)]
    simp
theorem Hst.take_8 {x : Q4} {m : List UInt8} (h : m.length = 8) : (Hst.mk x []).take m = ⟨x.mix (rd m), []⟩ := by
  obtain ⟨l, c, rfl⟩ : ∃ l c, m = l ++ [c] := by
    rcases List.eq_nil_or_concat m with rfl | ⟨l, c, e⟩
    · simp at h
    · exact ⟨l, c, by simpa using e⟩
  have hl : l.length = 7 := by simpa using h
  have h7 := Hst.take_short (x := x) (l := []) (m := l) (by simp; omega)
  rw [List.nil_append] at h7
  rw [Hst.take_app, h7]
  show Hst.put _ _ = _
  unfold Hst.put
  rw [if_pos hl]
/-- The number of ybs that were taken. -/
def Hst.sum (s : Hst) (n : Nat) : BitVec 64 := s.x.fin (rd s.left ||| (BitVec.ofNat 64 n <<< 56))
def sumOf (k l : List UInt8) : BitVec 64 := ((Hst.mk (key0 k) []).take l).sum l.length
theorem last_or {l : List UInt8} (h : l.length < 8) (n : Nat) : rd l ||| (BitVec.ofNat 64 n <<< 56) = rd l + (BitVec.ofNat 64 (n % 256) <<< 56) := by
  have h1 := rdN_lt l
  have h2 : 256 ^ l.length ≤ 256 ^ 7 := Nat.pow_le_pow_right (by omega) (by omega)
  rw [rd_short (by omega)]
  generalize rdN l = r at h1
  have e : BitVec.ofNat 64 n <<< 56 = BitVec.ofNat 64 (n % 256) <<< 56 := by
    apply BitVec.eq_of_toNat_eq
    rw [BitVec.toNat_shiftLeft, BitVec.toNat_shiftLeft, BitVec.toNat_ofNat, BitVec.toNat_ofNat, Nat.shiftLeft_eq, Nat.shiftLeft_eq]
    omega
  rw [e, show (56 : Nat) = 8 * 7 from rfl, or_step r (n % 256) 7 (by omega) (by omega) (by omega)]
  apply BitVec.eq_of_toNat_eq
  rw [BitVec.toNat_add, BitVec.toNat_shiftLeft, BitVec.toNat_ofNat, BitVec.toNat_ofNat, BitVec.toNat_ofNat, Nat.shiftLeft_eq]
  omega

theorem take_step {x : Q4} {l : List UInt8} {a : Nat} (hl : ((Hst.mk x []).take (l.take a)).left = []) (h : a + 8 ≤ l.length) : (Hst.mk x []).take (l.take (a + 8)) = ⟨((Hst.mk x []).take (l.take a)).x.mix (rd ((l.drop a).take 8)), []⟩ := by
  rw [List.take_add, Hst.take_app]
  generalize (Hst.mk x []).take (l.take a) = s at hl
  obtain ⟨y, lf⟩ := s
  simp only at hl
  subst hl
  exact Hst.take_8 (by rw [List.length_take, List.length_drop]; omega)
theorem take_mul (x : Q4) (l : List UInt8) : ∀ j : Nat, 8 * j ≤ l.length → ((Hst.mk x []).take (l.take (8 * j))).left = []
  | 0, _ => rfl
  | j + 1, h => by
    rw [show 8 * (j + 1) = 8 * j + 8 from by omega, take_step (take_mul x l j (by omega)) (by omega)]
theorem take_end {x : Q4} {l : List UInt8} {a : Nat} (hl : ((Hst.mk x []).take (l.take a)).left = []) (h : l.length < a + 8) : (Hst.mk x []).take l = ⟨((Hst.mk x []).take (l.take a)).x, l.drop a⟩ := by
  have e : (Hst.mk x []).take l = (Hst.mk x []).take (l.take a ++ l.drop a) := by rw [List.take_append_drop]
  rw [e, Hst.take_app]
  generalize (Hst.mk x []).take (l.take a) = s at hl
  obtain ⟨y, lf⟩ := s
  simp only at hl
  subst hl
  have := Hst.take_short (x := y) (l := []) (m := l.drop a) (by simp; omega)
  rw [this, List.nil_append]
end Go.Bst
