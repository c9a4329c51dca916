/- A book of marks, in plain Lean. Conditions: none. -/
import Derived.Test.YtidkfjgelcpieaaArc
import Derived.Test.YtidkfjgelcpieaaSipL
set_option linter.unusedVariables false
set_option linter.unusedSimpArgs false
namespace Go.Bst
open Go.RowKit Go.MapKept

structure Mk where
  msg : List UInt8
  tag : BitVec 64
structure Bd where
  kind : Int
  msg : List UInt8
  other : List UInt8
  tag : BitVec 64
structure Bk where
  key : Option (List UInt8)
  ms : List Mk
  bs : List Bd
def idx (ms : List Mk) (m : List UInt8) : Option Nat := ms.findIdx? (fun x => x.msg == m)
def firstOf (ms : List Mk) (t : BitVec 64) : Option Nat := ms.findIdx? (fun x => x.tag == t)
def tagAt (ms : List Mk) (i : Nat) : BitVec 64 := (ms[i]?.map (·.tag)).getD 0#64
def msgAt (ms : List Mk) (i : Nat) : List UInt8 := (ms[i]?.map (·.msg)).getD []
def Bk.fresh (b : Bk) (m : List UInt8) : BitVec 64 := match b.key with
  | none => BitVec.ofInt 64 (b.ms.length : Int) + 1#64
  | some k => sumOf k m
def Bk.twins (b : Bk) (m : List UInt8) (t : BitVec 64) : List Bd := match firstOf b.ms t with
  | none => []
  | some k => [⟨2, m, msgAt b.ms k, t⟩]
def Bk.tagS (b : Bk) (m : List UInt8) : Bk := match idx b.ms m with
  | some _ => b
  | none => ⟨b.key, b.ms ++ [⟨m, b.fresh m⟩], b.bs ++ b.twins m (b.fresh m)⟩
def Bk.tagR (b : Bk) (m : List UInt8) : BitVec 64 := match idx b.ms m with
  | some i => tagAt b.ms i
  | none => b.fresh m
def Bk.fits (b : Bk) (m : List UInt8) (t : BitVec 64) : Bool := match b.key with
  | none => (match idx b.ms m with | some i => tagAt b.ms i == t | none => false)
  | some k => sumOf k m == t
def Bk.verS (b : Bk) (m : List UInt8) (t : BitVec 64) : Bk := if b.fits m t then (if (idx b.ms m).isSome then b else ⟨b.key, b.ms, b.bs ++ [⟨1, m, [], t⟩]⟩) else b

theorem findIdx_app {α : Type} (p : α → Bool) (l : List α) (x : α) : (l ++ [x]).findIdx? p = (l.findIdx? p).or (if p x then some l.length else none) := by
  rw [List.findIdx?_append]
  congr 1
  simp [List.findIdx?_cons]
theorem idx_app (ms : List Mk) (x : Mk) (m : List UInt8) : idx (ms ++ [x]) m = (idx ms m).or (if x.msg = m then some ms.length else none) := by
  unfold idx
  rw [findIdx_app]
  simp
theorem first_app (ms : List Mk) (x : Mk) (t : BitVec 64) : firstOf (ms ++ [x]) t = (firstOf ms t).or (if x.tag = t then some ms.length else none) := by
  unfold firstOf
  rw [findIdx_app]
  simp
theorem findIdx_some {α : Type} {p : α → Bool} {l : List α} {i : Nat} (h : l.findIdx? p = some i) : ∃ x, l[i]? = some x ∧ p x = true := by
  rw [List.findIdx?_eq_some_iff_getElem] at h
  obtain ⟨h1, h2, _⟩ := h
  exact ⟨_, List.getElem?_eq_getElem h1, h2⟩
theorem idx_some {ms : List Mk} {m : List UInt8} {i : Nat} (h : idx ms m = some i) : ∃ x, ms[i]? = some x ∧ x.msg = m := by
  obtain ⟨x, h1, h2⟩ := findIdx_some h
  exact ⟨x, h1, by simpa using h2⟩
theorem first_some {ms : List Mk} {t : BitVec 64} {i : Nat} (h : firstOf ms t = some i) : ∃ x, ms[i]? = some x ∧ x.tag = t := by
  obtain ⟨x, h1, h2⟩ := findIdx_some h
  exact ⟨x, h1, by simpa using h2⟩

def fIndex (ms : List Mk) : Value → Option Value
  | .string s => (idx ms s.data.toList).map (fun i : Nat => Value.int .i64 (i : Int))
  | _ => none
def fFirst (ms : List Mk) : Value → Option Value
  | .int .u64 n => if 0 ≤ n ∧ n < 18446744073709551616 then (firstOf ms (BitVec.ofInt 64 n)).map (fun i : Nat => Value.int .i64 (i : Int)) else none
  | _ => none
theorem fIndex_str (ms : List Mk) (m : List UInt8) : fIndex ms (.string (strOf m)) = (idx ms m).map (fun i : Nat => Value.int .i64 (i : Int)) := by
  unfold fIndex strOf; rfl
theorem U_num (t : BitVec 64) : U t = Value.int .u64 (t.toNat : Int) := by unfold U; rfl
theorem fFirst_U (ms : List Mk) (t : BitVec 64) : fFirst ms (U t) = (firstOf ms t).map (fun i : Nat => Value.int .i64 (i : Int)) := by
  rw [U_num]
  unfold fFirst
  have := t.isLt
  simp only [ofInt_toNat]
  rw [if_pos ⟨by omega, by omega⟩]
theorem key_str (m : List UInt8) : IsKey .string (.string (strOf m)) := trivial
theorem key_U (t : BitVec 64) : IsKey (.int .u64) (U t) := by rw [U_num]; rfl
theorem str_of_key {v : Value} (h : IsKey .string v) : ∃ m, v = .string (strOf m) := by
  cases v <;> simp [IsKey] at h
  rename_i s
  exact ⟨s.data.toList, by unfold strOf; simp⟩
theorem fIndex_push {ms : List Mk} {m : List UInt8} {t : BitVec 64} (hn : idx ms m = none) (k : Value) (hk : IsKey .string k) : upd (fIndex ms) (.string (strOf m)) (some (.int .i64 (ms.length : Int))) k = fIndex (ms ++ [⟨m, t⟩]) k := by
  obtain ⟨q, rfl⟩ := str_of_key hk
  rw [fIndex_str, idx_app]
  by_cases e : q = m
  · subst e; rw [upd_same, hn]; simp
  · rw [upd_ne _ _ _ (fun h => e (strOf_inj h)), fIndex_str]
    simp [Ne.symm e]
theorem fFirst_push {ms : List Mk} {m : List UInt8} {t : BitVec 64} (hn : firstOf ms t = none) (k : Value) (hk : IsKey (.int .u64) k) : upd (fFirst ms) (U t) (some (.int .i64 (ms.length : Int))) k = fFirst (ms ++ [⟨m, t⟩]) k := by
  cases k <;> simp [IsKey] at hk
  rename_i kk n
  subst hk
  by_cases e : Value.int .u64 n = U t
  · rw [e, upd_same, fFirst_U, first_app, hn]; simp
  · rw [upd_ne _ _ _ e]
    unfold fFirst
    by_cases hr : 0 ≤ n ∧ n < 18446744073709551616
    · simp only [if_pos hr]
      rw [first_app]
      by_cases e2 : t = BitVec.ofInt 64 n
      · exact absurd (by rw [U_of hr.1 hr.2, e2]) e
      · simp [e2]
    · simp only [if_neg hr]
theorem fFirst_twin {ms : List Mk} {m : List UInt8} {t : BitVec 64} {j : Nat} (hn : firstOf ms t = some j) (k : Value) (hk : IsKey (.int .u64) k) : fFirst ms k = fFirst (ms ++ [⟨m, t⟩]) k := by
  cases k <;> simp [IsKey] at hk
  rename_i kk n
  subst hk
  unfold fFirst
  by_cases hr : 0 ≤ n ∧ n < 18446744073709551616
  · simp only [if_pos hr]
    rw [first_app]
    by_cases e2 : t = BitVec.ofInt 64 n
    · rw [← e2, hn]; rfl
    · simp [e2]
  · simp only [if_neg hr]
theorem fIndex_nil (k : Value) (hk : IsKey .string k) : (fun _ => none : Value → Option Value) k = fIndex [] k := by
  obtain ⟨m, rfl⟩ := str_of_key hk
  rw [fIndex_str]; rfl
theorem fFirst_nil (k : Value) (hk : IsKey (.int .u64) k) : (fun _ => none : Value → Option Value) k = fFirst [] k := by
  cases k <;> simp [IsKey] at hk
  rename_i kk n
  subst hk
  unfold fFirst
  simp [firstOf]
end Go.Bst
