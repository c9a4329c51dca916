/- What is seen of cores and banks: the forms in memory of lines, cores, banks. Conditions: none. -/
import Derived.Test.YtklhmlplabkoeaaClo
import Derived.Test.YtklhmlplabkoeaaCmp
import Derived.Test.YtklhmlplabkoeaaProg
set_option linter.unusedVariables false
set_option linter.unusedSimpArgs false
namespace Go.Proofs.Ytklhmlplabkoeaa
open Go.RowKit Go.Bst
abbrev lineK : List SK := List.replicate 32 (.int .u8)
/-- A line's bytes. -/
structure Dat where
  c : Array Value
  hd : c.size = 32
  ho : c.all (·.oneCell') = true
  hf : fitAll lineK c.toList
def zeroD : Array Value := #[.int .u8 0, .int .u8 0, .int .u8 0, .int .u8 0, .int .u8 0, .int .u8 0, .int .u8 0, .int .u8 0, .int .u8 0, .int .u8 0, .int .u8 0, .int .u8 0, .int .u8 0, .int .u8 0, .int .u8 0, .int .u8 0, .int .u8 0, .int .u8 0, .int .u8 0, .int .u8 0, .int .u8 0, .int .u8 0, .int .u8 0, .int .u8 0, .int .u8 0, .int .u8 0, .int .u8 0, .int .u8 0, .int .u8 0, .int .u8 0, .int .u8 0, .int .u8 0]
def Dat.zero : Dat := ⟨zeroD, rfl, by unfold zeroD; simp [Value.oneCell'], by
  have h : SK.fits (.int .u8) (.int .u8 0) := ⟨0, rfl, by decide, by decide⟩
  unfold zeroD
  exact ⟨h, h, h, h, h, h, h, h, h, h, h, h, h, h, h, h, h, h, h, h, h, h, h, h, h, h, h, h, h, h, h, h, trivial⟩⟩
structure Nev where
  line : Int
  state : Int
  data : Dat
def Nev.cs (x : Nev) : Array Value := #[.int .i64 x.line, .int .i64 x.state] ++ x.data.c
theorem Nev.size (x : Nev) : x.cs.size = 34 := by unfold Nev.cs; rw [Array.size_append, x.data.hd]; rfl
theorem Nev.c0 (x : Nev) : x.cs[0]? = some (.int .i64 x.line) := by unfold Nev.cs; rw [Array.getElem?_append_left (by simp)]; rfl
theorem Nev.c1 (x : Nev) : x.cs[1]? = some (.int .i64 x.state) := by unfold Nev.cs; rw [Array.getElem?_append_left (by simp)]; rfl
theorem ext_app (a b : Array Value) (n m : Nat) (ha : a.size = n) (hb : b.size = m) : (a ++ b).extract n (n + m) = b := by
  subst ha; subst hb
  simp
theorem Nev.x2 (x : Nev) : x.cs.extract 2 (2 + 32) = x.data.c := ext_app _ _ 2 32 rfl x.data.hd
theorem Nev.one (x : Nev) : x.cs.all (·.oneCell') = true := by
  unfold Nev.cs
  rw [Array.all_append, x.data.ho, Bool.and_true]; simp [Value.oneCell']
def Nev.zero : Nev := ⟨0, 0, .zero⟩
theorem nev_zero : zeroOf Try.prog 38 = some (.agg Nev.zero.cs) := by kernel_rfl
theorem nev_agg : aggSize Try.prog 38 = some 34 := by kernel_rfl
theorem nev_info : (Try.prog.info? 38).map (·.size) = some 34 := by kernel_rfl
theorem line_agg : aggSize Try.prog 36 = some 32 := by kernel_rfl
theorem line_kinds : skinds Try.prog 9 36 = some lineK := by kernel_rfl
theorem line_sm : aggSize Try.prog 36 ≠ none := by rw [line_agg]; simp
theorem line_eqg : Try.prog.eqGuardType Try.prog.depth 36 = false := by kernel_rfl
theorem near_build (s : Int) : buildC Try.prog 38 [(1, #[.int .i64 s])] = some (Nev.mk 0 s .zero).cs := by kernel_rfl
attribute [irreducible] Nev.cs
structure Fav where
  line : Int
  owner : Int
  sharers : Int
  dirty : Bool
  data : Dat
def Fav.cs (x : Fav) : Array Value := #[.int .i64 x.line, .int .i64 x.owner, .int .i64 x.sharers, .bool x.dirty] ++ x.data.c
theorem Fav.size (x : Fav) : x.cs.size = 36 := by unfold Fav.cs; rw [Array.size_append, x.data.hd]; rfl
theorem Fav.c0 (x : Fav) : x.cs[0]? = some (.int .i64 x.line) := by unfold Fav.cs; rw [Array.getElem?_append_left (by simp)]; rfl
theorem Fav.c1 (x : Fav) : x.cs[1]? = some (.int .i64 x.owner) := by unfold Fav.cs; rw [Array.getElem?_append_left (by simp)]; rfl
theorem Fav.c2 (x : Fav) : x.cs[2]? = some (.int .i64 x.sharers) := by unfold Fav.cs; rw [Array.getElem?_append_left (by simp)]; rfl
theorem Fav.one (x : Fav) : x.cs.all (·.oneCell') = true := by
  unfold Fav.cs
  rw [Array.all_append, x.data.ho, Bool.and_true]; simp [Value.oneCell']
def Fav.zero : Fav := ⟨0, 0, 0, false, .zero⟩
theorem fav_zero : zeroOf Try.prog 81 = some (.agg Fav.zero.cs) := by kernel_rfl
theorem fav_agg : aggSize Try.prog 81 = some 36 := by kernel_rfl
theorem fav_info : (Try.prog.info? 81).map (·.size) = some 36 := by kernel_rfl
attribute [irreducible] Fav.cs
theorem mid (a b : Array Value) (v : Value) (n : Nat) (h : a.size = n) : (a ++ #[v] ++ b)[n]? = some v := by
  subst h
  rw [Array.append_assoc, Array.getElem?_append_right (Nat.le_refl _), Nat.sub_self, Array.getElem?_append_left (by simp)]; rfl
/-- A core: what is ahead of its lines, its lines, what is behind them. -/
structure Cov where
  a : Array Value
  A : Option Addr
  cap : Nat
  ls : List Nev
  b : Array Value
  ha : a.size = 6
  hb : b.size = 35
  hoa : a.all (·.oneCell') = true
  hob : b.all (·.oneCell') = true
def Cov.v (x : Cov) : Value := .slice x.A x.ls.length x.cap
def Cov.cs (x : Cov) : Array Value := x.a ++ #[.slice x.A x.ls.length x.cap] ++ x.b
theorem Cov.size (x : Cov) : x.cs.size = 42 := by unfold Cov.cs; rw [Array.size_append, Array.size_append, x.ha, x.hb]; rfl
theorem Cov.c6 (x : Cov) : x.cs[6]? = some (.slice x.A x.ls.length x.cap) := mid _ _ _ 6 x.ha
theorem Cov.one (x : Cov) : x.cs.all (·.oneCell') = true := by
  unfold Cov.cs
  rw [Array.all_append, Array.all_append, x.hoa, x.hob]; simp [Value.oneCell']
def Cov.of (A : Option Addr) (ls : List Nev) (cap : Nat) : Cov := ⟨#[.int .i64 0, .int .i64 0, .int .i64 0, .int .i64 0, .int .u64 0, .int .u64 0], A, cap, ls, #[.int .i64 0, .int .i64 0] ++ zeroD ++ #[.bool false], rfl, rfl, by simp [Value.oneCell'], by unfold zeroD; simp [Value.oneCell']⟩
def Cov.zero : Cov := Cov.of none [] 0
theorem cov_zero : zeroOf Try.prog 40 = some (.agg Cov.zero.cs) := by kernel_rfl
theorem cov_agg : aggSize Try.prog 40 = some 42 := by kernel_rfl
theorem cov_info : (Try.prog.info? 40).map (·.size) = some 42 := by kernel_rfl
theorem core_build (A : Option Addr) (n cap : Nat) : buildC Try.prog 40 [(2, #[.slice A n cap])] = some (#[.int .i64 0, .int .i64 0, .int .i64 0, .int .i64 0, .int .u64 0, .int .u64 0] ++ #[.slice A n cap] ++ (#[.int .i64 0, .int .i64 0] ++ zeroD ++ #[.bool false])) := by kernel_rfl
theorem core_build' (A : Option Addr) (ls : List Nev) (cap : Nat) : buildC Try.prog 40 [(2, #[.slice A ls.length cap])] = some (Cov.of A ls cap).cs := core_build A ls.length cap
attribute [irreducible] Cov.cs
/-- A bank. -/
structure Bav where
  a : Array Value
  A : Option Addr
  cap : Nat
  ls : List Fav
  ha : a.size = 43
  hoa : a.all (·.oneCell') = true
def Bav.cs (x : Bav) : Array Value := x.a ++ #[.slice x.A x.ls.length x.cap] ++ #[]
theorem Bav.size (x : Bav) : x.cs.size = 44 := by unfold Bav.cs; rw [Array.size_append, Array.size_append, x.ha]; rfl
theorem Bav.c43 (x : Bav) : x.cs[43]? = some (.slice x.A x.ls.length x.cap) := mid _ _ _ 43 x.ha
theorem Bav.one (x : Bav) : x.cs.all (·.oneCell') = true := by
  unfold Bav.cs
  rw [Array.all_append, Array.all_append, x.hoa]; simp [Value.oneCell']
def zeroB : Array Value := #[.int .i64 0, .int .i64 0, .int .i64 0, .int .i64 0, .int .i64 0, .bool false, .bool false, .int .u8 0, .int .u8 0, .int .u8 0, .int .u8 0, .int .u8 0, .int .u8 0, .int .u8 0, .int .u8 0, .int .u8 0, .int .u8 0, .int .u8 0, .int .u8 0, .int .u8 0, .int .u8 0, .int .u8 0, .int .u8 0, .int .u8 0, .int .u8 0, .int .u8 0, .int .u8 0, .int .u8 0, .int .u8 0, .int .u8 0, .int .u8 0, .int .u8 0, .int .u8 0, .int .u8 0, .int .u8 0, .int .u8 0, .int .u8 0, .int .u8 0, .int .u8 0, .int .i64 0, .int .i64 0, .int .i64 0, .bool false]
def Bav.zero : Bav := ⟨zeroB, none, 0, [], rfl, by unfold zeroB; simp [Value.oneCell']⟩
theorem bav_zero : zeroOf Try.prog 45 = some (.agg Bav.zero.cs) := by kernel_rfl
theorem bav_agg : aggSize Try.prog 45 = some 44 := by kernel_rfl
theorem bav_info : (Try.prog.info? 45).map (·.size) = some 44 := by kernel_rfl
attribute [irreducible] Bav.cs
end Go.Proofs.Ytklhmlplabkoeaa
