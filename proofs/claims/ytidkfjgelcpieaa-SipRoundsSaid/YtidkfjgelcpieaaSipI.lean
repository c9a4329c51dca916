/- Rounds of package sip: unlike numbers stay unlike. Conditions: none. -/
import Derived.Test.YtidkfjgelcpieaaSipL
set_option linter.unusedVariables false
set_option linter.unusedSimpArgs false
namespace Go.Bst
open Go.RowKit

theorem rot_inj {x y : BitVec 64} {k : Nat} (hk : k < 64) (h : x.rotateLeft k = y.rotateLeft k) : x = y := by
  apply BitVec.eq_of_getLsbD_eq
  intro i hi
  have hm : k % 64 = k := Nat.mod_eq_of_lt hk
  by_cases hik : i + k < 64
  · have := congrArg (fun z : BitVec 64 => z.getLsbD (i + k)) h
    simp only [BitVec.getLsbD_rotateLeft, hm] at this
    have e1 : ¬ i + k < k := by omega
    simpa [hik, e1] using this
  · have := congrArg (fun z : BitVec 64 => z.getLsbD (i + k - 64)) h
    simp only [BitVec.getLsbD_rotateLeft, hm] at this
    have e1 : i + k - 64 < k := by omega
    have e2 : 64 - k + (i + k - 64) = i := by omega
    simpa [e1, e2] using this
theorem xor_inj {x y z : BitVec 64} (h : x ^^^ z = y ^^^ z) : x = y := by
  have := congrArg (fun q => q ^^^ z) h
  simpa [BitVec.xor_assoc] using this
theorem add_inj {x y z : BitVec 64} (h : x + z = y + z) : x = y := by
  have := congrArg (fun q => q - z) h
  simpa using this
theorem Q4.ext' {x y : Q4} (h1 : x.a = y.a) (h2 : x.b = y.b) (h3 : x.c = y.c) (h4 : x.d = y.d) : x = y := by
  cases x; cases y; simp at *; exact ⟨h1, h2, h3, h4⟩
theorem round_inj {x y : Q4} (h : x.round = y.round) : x = y := by
  have ha := congrArg Q4.a h
  have hb := congrArg Q4.b h
  have hc := congrArg Q4.c h
  have hd := congrArg Q4.d h
  simp only [Q4.round] at ha hb hc hd
  have hc1 := rot_inj (by omega) hc
  rw [hc1] at hb
  have hb0 := rot_inj (by omega) (xor_inj hb)
  rw [hb0] at hc1
  have hc0 := add_inj hc1
  rw [ha] at hd
  have hd0 := rot_inj (by omega) (xor_inj hd)
  rw [hd0] at ha
  have ha0 := rot_inj (by omega) (add_inj ha)
  rw [ha0] at hb0
  have hxb := rot_inj (by omega) (xor_inj hb0)
  rw [hxb] at ha0
  have hxa := add_inj ha0
  rw [hc0] at hd0
  have hxd := rot_inj (by omega) (xor_inj hd0)
  rw [hxd] at hc0
  exact Q4.ext' hxa hxb (add_inj hc0) hxd
theorem cs_inj {x y : Q4} (h : x.cs = y.cs) : x = y := by
  unfold Q4.cs at h
  simp only [Array.mk.injEq, List.cons.injEq, and_true] at h
  exact Q4.ext' (U_inj h.1) (U_inj h.2.1) (U_inj h.2.2.1) (U_inj h.2.2.2)
theorem round_0 : (Q4.mk 0#64 0#64 0#64 0#64).round = Q4.mk 0#64 0#64 0#64 0#64 := rfl
end Go.Bst
