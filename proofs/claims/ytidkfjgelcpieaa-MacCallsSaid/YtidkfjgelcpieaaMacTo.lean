/- The law MacTold: a bad event can be shown. Conditions: none. -/
import Derived.Test.YtidkfjgelcpieaaMacId
import Derived.Test.YtidkfjgelcpieaaMacP
import Derived.Test.YtidkfjgelcpieaaSipS
set_option linter.unusedVariables false
set_option linter.unusedSimpArgs false
namespace Go.Proofs.Ytidkfjgelcpieaa
open Go.RowKit Go.Bst Go.MapKept Go.Proofs.YtidkfjgelcpieaaW.PrintLast
attribute [local irreducible] sumOf wpList Calls Code.wp Code.wpN Oper.wp Go.Proofs.YtidkfjgelcpieaaW.PrintLast.wpAnyLast

/-- A bad event that can be shown, by the key. -/
def Shown (key : List UInt8) (d : Bd) : Prop := d.msg.length ≤ 100 ∧ d.other.length ≤ 100 ∧ sumOf key d.msg = d.tag ∧ (d.kind = 1 ∨ d.kind = 2 ∧ sumOf key d.other = d.tag)
structure Bi (s : Bk) (key : List UInt8) (k : Nat) : Prop where
  mi : Mi s k
  hkey : s.key = some key
  bad : ∀ d ∈ s.bs, Shown key d
theorem Bi.tagS {s : Bk} {key : List UInt8} {k : Nat} (h : Bi s key k) {m : List UInt8} (hm : m.length ≤ 100) : Bi (s.tagS m) key (k + 1) := by
  refine ⟨h.mi.tagS hm, (tagS_key s m).trans h.hkey, ?_⟩
  cases hi : idx s.ms m with
  | some i =>
    have e1 : s.tagS m = s := by unfold Bk.tagS; rw [hi]
    rw [e1]; exact h.bad
  | none =>
    have e1 : (s.tagS m).bs = s.bs ++ s.twins m (s.fresh m) := by unfold Bk.tagS; rw [hi]
    rw [e1]
    intro d hd
    rcases List.mem_append.1 hd with hd | hd
    · exact h.bad d hd
    · unfold Bk.twins at hd
      cases hf : firstOf s.ms (s.fresh m) with
      | none => rw [hf] at hd; cases hd
      | some j =>
        rw [hf] at hd
        simp only [List.mem_singleton] at hd
        subst hd
        obtain ⟨x, hx, hxt⟩ := first_some hf
        have hfr : s.fresh m = sumOf key m := by unfold Bk.fresh; rw [h.hkey]
        have ho := (h.mi.own j x hx).2
        rw [h.hkey] at ho
        have ho' : x.tag = sumOf key x.msg := ho
        refine ⟨hm, ?_, hfr.symm, .inr ⟨rfl, ?_⟩⟩
        · simp only; rw [msgAt_of hx]; exact h.mi.msgs x (List.mem_of_getElem? hx)
        · simp only; rw [msgAt_of hx, ← ho', hxt]
theorem Bi.verS {s : Bk} {key : List UInt8} {k : Nat} (h : Bi s key k) {m : List UInt8} (hm : m.length ≤ 100) (t : BitVec 64) : Bi (s.verS m t) key (k + 1) ∧ (s.verS m t).bs.length = s.bs.length + (if s.fits m t && !(idx s.ms m).isSome then 1 else 0) := by
  obtain ⟨v1, v2, v3⟩ := h.mi.verS m t
  refine ⟨⟨v1, v3.trans h.hkey, ?_⟩, ?_⟩
  · intro d hd
    unfold Bk.verS at hd
    split at hd
    · rename_i hf
      split at hd
      · exact h.bad d hd
      · rcases List.mem_append.1 hd with hd | hd
        · exact h.bad d hd
        · simp only [List.mem_singleton] at hd
          subst hd
          have : sumOf key m = t := by
            unfold Bk.fits at hf
            rw [h.hkey] at hf
            simpa using hf
          exact ⟨hm, by simp, this, .inl rfl⟩
    · exact h.bad d hd
  · unfold Bk.verS
    cases s.fits m t <;> cases (idx s.ms m).isSome <;> simp
theorem Bi.new (key : List UInt8) : Bi ⟨some key, [], []⟩ key 0 := ⟨Mi.new _, rfl, by simp⟩
theorem rn_ieqlC {P : Program} {w : World} {o : Oper} {a : Act} {x y : Operand} {t yt : TypeId} {k : IntKind} {p q : Int} (ho : o.op = .binOp .eql t x y yt) (hx : a.eval x = .int k p) (hy : a.eval y = .int k q) (b : Bool) (hb : (p == q) = b) : (execOp a.eval o).run P w = .ok (.value (.bool b)) w := by
  unfold execOp
  subst hb
  simp [ho, hx, hy, eqGuard, binOp, Op.intCmp]
theorem rn_ineqC {P : Program} {w : World} {o : Oper} {a : Act} {x y : Operand} {t yt : TypeId} {k : IntKind} {p q : Int} (ho : o.op = .binOp .neq t x y yt) (hx : a.eval x = .int k p) (hy : a.eval y = .int k q) (b : Bool) (hb : (p != q) = b) : (execOp a.eval o).run P w = .ok (.value (.bool b)) w := by
  unfold execOp
  subst hb
  simp [ho, hx, hy, eqGuard, binOp, Op.intCmp, bne]
section
variable {E : Env} {w : World} {F : List HP} {b : Nat} {s : Bk}
theorem mac_badlen {key : List UInt8} {k : Nat} (n : Nat) (hw : Sat E w (Book b s :: F)) (hs : Bi s key k) (hk : k ≤ 1000) (hn : s.bs.length = n) :
    Calls Try.prog 27 #[.pointer (some ⟨b, 0, none⟩)] w fun e w' => ∃ (A : Option Addr) (c : Nat), e = .returned (.slice A n c) ∧ Sat E w' (Book b s :: F) := by
  refine (mac_bad hw (by have := hs.mi.blen; omega) (fun x hx => by have := hs.bad x hx; unfold Shown at this; omega)).mono ?_
  rintro e w' ⟨v, bl, h, rfl, hbl, _, hw⟩
  obtain ⟨A5, c5, rfl, _, _⟩ := Row_val hw 0 rfl
  have e1 : bl.length = n := by rw [← hn, ← hbl, List.length_map]
  rw [e1]
  exact ⟨_, _, rfl, by rw [e1] at hw; exact hw.tail.tail⟩
theorem mac_ver_told {key : List UInt8} {k : Nat} {v : Value} {m : List UInt8} {t : BitVec 64} (had : Bool) (hw : Sat E w (Book b s :: F)) (hs : Kp (Bi s key k)) (hk : k ≤ 1000) (hR : ∀ w', Sat E w' F → Rd w' 1 v m.length (ybs m)) (hm : m.length ≤ 100) (hh : (idx s.ms m).isSome = had) :
    Calls Try.prog 23 #[.pointer (some ⟨b, 0, none⟩), v, U t] w fun e w' => ∃ (ok : Bool) (s' : Bk), e = .returned (.bool ok) ∧ Kp (Bi s' key (k + 1)) ∧ Kp (s'.bs.length = s.bs.length + (if ok && !had then 1 else 0)) ∧ Sat E w' (Book b s' :: F) := by
  refine (mac_verify hw hR (by omega) (by have := hs.out.mi.blen; omega)).mono ?_
  rintro e w' ⟨rfl, hw⟩
  obtain ⟨v1, v2⟩ := hs.out.verS hm t
  rw [hh] at v2
  exact ⟨_, _, rfl, Kp.mk v1, Kp.mk v2, hw⟩
end
end Go.Proofs.Ytidkfjgelcpieaa
