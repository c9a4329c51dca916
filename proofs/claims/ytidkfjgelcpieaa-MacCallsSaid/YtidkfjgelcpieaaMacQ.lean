/- What calls keep of the bad events' sizes. Conditions: none. -/
import Derived.Test.YtidkfjgelcpieaaMacMa
set_option linter.unusedVariables false
set_option linter.unusedSimpArgs false
namespace Go.Proofs.Ytidkfjgelcpieaa
open Go.RowKit Go.Bst Go.MapKept
theorem tagS_bad {s : Bk} {k : Nat} (h : Mi s k) (hb : ∀ d ∈ s.bs, d.msg.length ≤ 100 ∧ d.other.length ≤ 100) {m : List UInt8} (hm : m.length ≤ 100) : ∀ d ∈ (s.tagS m).bs, d.msg.length ≤ 100 ∧ d.other.length ≤ 100 := by
  cases hi : idx s.ms m with
  | some i =>
    have e1 : s.tagS m = s := by unfold Bk.tagS; rw [hi]
    rw [e1]; exact hb
  | none =>
    have e1 : (s.tagS m).bs = s.bs ++ s.twins m (s.fresh m) := by unfold Bk.tagS; rw [hi]
    rw [e1]
    intro d hd
    rcases List.mem_append.1 hd with hd | hd
    · exact hb d hd
    · unfold Bk.twins at hd
      cases hf : firstOf s.ms (s.fresh m) with
      | none => rw [hf] at hd; cases hd
      | some j =>
        rw [hf] at hd
        simp only [List.mem_singleton] at hd
        subst hd
        obtain ⟨x, hx, hxt⟩ := first_some hf
        exact ⟨hm, by simp only; rw [msgAt_of hx]; exact h.msgs x (List.mem_of_getElem? hx)⟩
theorem verS_bad {s : Bk} (hb : ∀ d ∈ s.bs, d.msg.length ≤ 100 ∧ d.other.length ≤ 100) {m : List UInt8} (hm : m.length ≤ 100) (t : BitVec 64) : ∀ d ∈ (s.verS m t).bs, d.msg.length ≤ 100 ∧ d.other.length ≤ 100 := by
  intro d hd
  unfold Bk.verS at hd
  split at hd
  · split at hd
    · exact hb d hd
    · rcases List.mem_append.1 hd with hd | hd
      · exact hb d hd
      · simp only [List.mem_singleton] at hd
        subst hd
        exact ⟨hm, by simp⟩
  · exact hb d hd
theorem ccell_one (ver own : Bool) {A : Option Addr} {n c : Nat} (m : List UInt8) (t : BitVec 64) : (ccell ⟨ver, own, .slice A n c, m, t⟩).all (·.oneCell') = true := by
  have e : (Value.slice A n c).oneCell' = true := rfl
  have e2 : ∀ b, (Value.bool b).oneCell' = true := fun _ => rfl
  simp [ccell, U_one, e, e2]
end Go.Proofs.Ytidkfjgelcpieaa
