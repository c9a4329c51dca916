/- Plans in plain Lean: their numbers, the tree's widths, what makes one right, and one that is right out of any. Conditions: none. -/
import Derived.Test.YtbkfhieadnfndaaArc
set_option linter.unusedVariables false
set_option linter.unusedSimpArgs false
namespace Go.Bst
open Go.RowKit

structure Pl where
  cores : Int
  banks : Int
  pages : Int
  lines : Int
  arity : Int
  minor : Int
  major : Int
  ns : Int
  nw : Int
  fs : Int
  fw : Int
  mt : Int
  queue : Int
  kind : Int
  k : Nat → UInt8

/-- A plan's cells. -/
def Pl.cs (p : Pl) : Array Value := #[.int .i64 p.cores, .int .i64 p.banks, .int .i64 p.pages, .int .i64 p.lines, .int .i64 p.arity, .int .i64 p.minor, .int .u64 p.major, .int .i64 p.ns, .int .i64 p.nw, .int .i64 p.fs, .int .i64 p.fw, .int .i64 p.mt, .int .i64 p.queue, .int .i64 p.kind,
  Y (p.k 0), Y (p.k 1), Y (p.k 2), Y (p.k 3), Y (p.k 4), Y (p.k 5), Y (p.k 6), Y (p.k 7), Y (p.k 8), Y (p.k 9), Y (p.k 10), Y (p.k 11), Y (p.k 12), Y (p.k 13), Y (p.k 14), Y (p.k 15),
  Y (p.k 16), Y (p.k 17), Y (p.k 18), Y (p.k 19), Y (p.k 20), Y (p.k 21), Y (p.k 22), Y (p.k 23), Y (p.k 24), Y (p.k 25), Y (p.k 26), Y (p.k 27), Y (p.k 28), Y (p.k 29), Y (p.k 30), Y (p.k 31)]

theorem Pl.c0 (p : Pl) : p.cs[0]? = some (.int .i64 p.cores) := rfl
theorem Pl.s0 (p : Pl) (v : Int) : p.cs.setIfInBounds 0 (.int .i64 v) = ({ p with cores := v } : Pl).cs := rfl
theorem Pl.c1 (p : Pl) : p.cs[1]? = some (.int .i64 p.banks) := rfl
theorem Pl.s1 (p : Pl) (v : Int) : p.cs.setIfInBounds 1 (.int .i64 v) = ({ p with banks := v } : Pl).cs := rfl
theorem Pl.c2 (p : Pl) : p.cs[2]? = some (.int .i64 p.pages) := rfl
theorem Pl.s2 (p : Pl) (v : Int) : p.cs.setIfInBounds 2 (.int .i64 v) = ({ p with pages := v } : Pl).cs := rfl
theorem Pl.c3 (p : Pl) : p.cs[3]? = some (.int .i64 p.lines) := rfl
theorem Pl.s3 (p : Pl) (v : Int) : p.cs.setIfInBounds 3 (.int .i64 v) = ({ p with lines := v } : Pl).cs := rfl
theorem Pl.c4 (p : Pl) : p.cs[4]? = some (.int .i64 p.arity) := rfl
theorem Pl.s4 (p : Pl) (v : Int) : p.cs.setIfInBounds 4 (.int .i64 v) = ({ p with arity := v } : Pl).cs := rfl
theorem Pl.c5 (p : Pl) : p.cs[5]? = some (.int .i64 p.minor) := rfl
theorem Pl.s5 (p : Pl) (v : Int) : p.cs.setIfInBounds 5 (.int .i64 v) = ({ p with minor := v } : Pl).cs := rfl
theorem Pl.c6 (p : Pl) : p.cs[6]? = some (.int .u64 p.major) := rfl
theorem Pl.s6 (p : Pl) (v : Int) : p.cs.setIfInBounds 6 (.int .u64 v) = ({ p with major := v } : Pl).cs := rfl
theorem Pl.c7 (p : Pl) : p.cs[7]? = some (.int .i64 p.ns) := rfl
theorem Pl.s7 (p : Pl) (v : Int) : p.cs.setIfInBounds 7 (.int .i64 v) = ({ p with ns := v } : Pl).cs := rfl
theorem Pl.c8 (p : Pl) : p.cs[8]? = some (.int .i64 p.nw) := rfl
theorem Pl.s8 (p : Pl) (v : Int) : p.cs.setIfInBounds 8 (.int .i64 v) = ({ p with nw := v } : Pl).cs := rfl
theorem Pl.c9 (p : Pl) : p.cs[9]? = some (.int .i64 p.fs) := rfl
theorem Pl.s9 (p : Pl) (v : Int) : p.cs.setIfInBounds 9 (.int .i64 v) = ({ p with fs := v } : Pl).cs := rfl
theorem Pl.c10 (p : Pl) : p.cs[10]? = some (.int .i64 p.fw) := rfl
theorem Pl.s10 (p : Pl) (v : Int) : p.cs.setIfInBounds 10 (.int .i64 v) = ({ p with fw := v } : Pl).cs := rfl
theorem Pl.c11 (p : Pl) : p.cs[11]? = some (.int .i64 p.mt) := rfl
theorem Pl.s11 (p : Pl) (v : Int) : p.cs.setIfInBounds 11 (.int .i64 v) = ({ p with mt := v } : Pl).cs := rfl
theorem Pl.c12 (p : Pl) : p.cs[12]? = some (.int .i64 p.queue) := rfl
theorem Pl.s12 (p : Pl) (v : Int) : p.cs.setIfInBounds 12 (.int .i64 v) = ({ p with queue := v } : Pl).cs := rfl
theorem Pl.c13 (p : Pl) : p.cs[13]? = some (.int .i64 p.kind) := rfl
theorem Pl.s13 (p : Pl) (v : Int) : p.cs.setIfInBounds 13 (.int .i64 v) = ({ p with kind := v } : Pl).cs := rfl
theorem Pl.size (p : Pl) : p.cs.size = 46 := rfl
theorem Pl.one (p : Pl) : p.cs.all (·.oneCell') = true := by
  unfold Pl.cs
  have e : ∀ k n, (Value.int k n).oneCell' = true := fun _ _ => rfl
  simp only [List.all_toArray, List.all_cons, List.all_nil, Y_one, e, Bool.and_true]
theorem Pl.near (p : Pl) : p.cs.extract 7 (7 + 2) = #[.int .i64 p.ns, .int .i64 p.nw] := rfl
theorem Pl.far (p : Pl) : p.cs.extract 9 (9 + 2) = #[.int .i64 p.fs, .int .i64 p.fw] := rfl
def Pl.zero : Pl := ⟨0, 0, 0, 0, 0, 0, 0, 0, 0, 0, 0, 0, 0, 0, fun _ => 0⟩
theorem Pl.zero_cs : Pl.zero.cs = #[.int .i64 0, .int .i64 0, .int .i64 0, .int .i64 0, .int .i64 0, .int .i64 0, .int .u64 0, .int .i64 0, .int .i64 0, .int .i64 0, .int .i64 0, .int .i64 0, .int .i64 0, .int .i64 0, .int .u8 0, .int .u8 0, .int .u8 0, .int .u8 0, .int .u8 0, .int .u8 0, .int .u8 0, .int .u8 0, .int .u8 0, .int .u8 0, .int .u8 0, .int .u8 0, .int .u8 0, .int .u8 0, .int .u8 0, .int .u8 0, .int .u8 0, .int .u8 0, .int .u8 0, .int .u8 0, .int .u8 0, .int .u8 0, .int .u8 0, .int .u8 0, .int .u8 0, .int .u8 0, .int .u8 0, .int .u8 0, .int .u8 0, .int .u8 0, .int .u8 0, .int .u8 0] := by
  have e : Y 0 = .int .u8 0 := (Y_lit 0 (by decide)).symm
  unfold Pl.cs Pl.zero
  simp only [e]
theorem Pl.setNear (p : Pl) (x y : Int) : splice p.cs 7 #[.int .i64 x, .int .i64 y] = ({ p with ns := x, nw := y } : Pl).cs := rfl
theorem Pl.setFar (p : Pl) (x y : Int) : splice p.cs 9 #[.int .i64 x, .int .i64 y] = ({ p with fs := x, fw := y } : Pl).cs := rfl
attribute [irreducible] Pl.cs
def i64B (n : Int) : Prop := -9223372036854775808 ≤ n ∧ n ≤ 9223372036854775807
/-- Its numbers are what machine words may be. -/
structure Pl.Ok (p : Pl) : Prop where
  cores : i64B p.cores
  banks : i64B p.banks
  pages : i64B p.pages
  lines : i64B p.lines
  arity : i64B p.arity
  minor : i64B p.minor
  major : 0 ≤ p.major ∧ p.major ≤ 18446744073709551615
  ns : i64B p.ns
  nw : i64B p.nw
  fs : i64B p.fs
  fw : i64B p.fw
  mt : i64B p.mt
  queue : i64B p.queue
  kind : i64B p.kind

def inB (lo hi n : Int) : Bool := decide (lo ≤ n) && decide (n ≤ hi)
theorem inB_iff {lo hi n : Int} : inB lo hi n = true ↔ lo ≤ n ∧ n ≤ hi := by unfold inB; simp
def shB (p : Pl) : Bool := inB 1 4 p.banks && inB 1 16 p.pages && inB 1 8 p.lines && inB 2 4 p.arity
theorem shB_iff {p : Pl} : shB p = true ↔ (1 ≤ p.banks ∧ p.banks ≤ 4) ∧ (1 ≤ p.pages ∧ p.pages ≤ 16) ∧ (1 ≤ p.lines ∧ p.lines ≤ 8) ∧ (2 ≤ p.arity ∧ p.arity ≤ 4) := by
  unfold shB; simp [inB_iff, and_assoc]
/-- How many items there are, level by level. -/
def wds (a : Nat) : Nat → Nat → List Nat
  | 0, n => [n]
  | f + 1, n => if n ≤ 1 then [n] else n :: wds a f ((n + a - 1) / a)
def wsOf (p : Pl) : List Nat := wds p.arity.toNat 5 p.pages.toNat
def stepB (a : Nat) (l : List Nat) (k : Nat) : Bool := decide (1 ≤ l.getD k 0) && decide (l.getD k 0 ≤ 16) && (if l.getD k 0 = 1 then decide (k + 1 = l.length) else decide (k + 1 < l.length) && decide (l.getD (k + 1) 0 = (l.getD k 0 + a - 1) / a))
theorem wds_all : (List.range 17).all (fun n => (List.range 5).all fun a => n == 0 || decide (a < 2) || (decide ((wds a 5 n).length ≤ 5) && decide (1 ≤ (wds a 5 n).length) && decide ((wds a 5 n)[0]? = some n) && (List.range (wds a 5 n).length).all fun k => stepB a (wds a 5 n) k)) = true := by decide +kernel
theorem wds_facts (n : Nat) (hn : n < 17) (a : Nat) (ha : a < 5) (h1 : 1 ≤ n) (h2 : 2 ≤ a) :
    (wds a 5 n).length ≤ 5 ∧ 1 ≤ (wds a 5 n).length ∧ (wds a 5 n)[0]? = some n ∧
    (∀ k, k < (wds a 5 n).length → 1 ≤ (wds a 5 n).getD k 0 ∧ (wds a 5 n).getD k 0 ≤ 16 ∧
      ((wds a 5 n).getD k 0 = 1 → k + 1 = (wds a 5 n).length) ∧
      ((wds a 5 n).getD k 0 ≠ 1 → k + 1 < (wds a 5 n).length ∧ (wds a 5 n).getD (k + 1) 0 = ((wds a 5 n).getD k 0 + a - 1) / a)) := by
  have h := List.all_eq_true.1 wds_all n (List.mem_range.2 hn)
  have h := List.all_eq_true.1 h a (List.mem_range.2 ha)
  generalize wds a 5 n = l at h ⊢
  have e1 : (n == 0) = false := by simp; omega
  have e2 : decide (a < 2) = false := by simp; omega
  rw [e1, e2] at h
  simp only [Bool.false_or, Bool.and_eq_true, decide_eq_true_eq, List.all_eq_true, List.mem_range] at h
  obtain ⟨⟨⟨q1, q2⟩, q3⟩, q4⟩ := h
  refine ⟨q1, q2, q3, fun k hk => ?_⟩
  have := q4 k hk
  unfold stepB at this
  simp only [Bool.and_eq_true, decide_eq_true_eq] at this
  obtain ⟨⟨p1, p2⟩, p3⟩ := this
  refine ⟨p1, p2, fun e => ?_, fun e => ?_⟩
  · rw [if_pos e] at p3; simpa using p3
  · rw [if_neg e] at p3; simpa using p3
def lvN (p : Pl) : Int := if shB p then ((wsOf p).length : Int) else 0
def wd (p : Pl) (l : Int) : Int := if shB p ∧ 0 ≤ l then (((wsOf p).getD l.toNat 0 : Nat) : Int) else 0
def leastI (p : Pl) : Int := if shB p then p.banks * lvN p + 1 else 0
def allI (p : Pl) : Int := if shB p then p.pages * p.lines else 0
def rightB (p : Pl) : Bool := shB p && (inB 1 4 p.cores && inB 1 4 p.ns && inB 1 4 p.nw && inB 1 4 p.fs && inB 1 4 p.fw && inB 1 4 p.queue) && inB 1 8 p.minor && decide (p.major ≤ 4294967296) && (p.kind == 0 || p.kind == 1) && inB (leastI p) 64 p.mt
def fitI (n lo hi : Int) : Int := if inB lo hi n then n else lo + n % (hi - lo + 1)
theorem fitI_in {n lo hi : Int} (h : lo ≤ hi) : lo ≤ fitI n lo hi ∧ fitI n lo hi ≤ hi := by
  unfold fitI
  cases e : inB lo hi n with
  | true => exact inB_iff.1 e
  | false =>
    have q1 := Int.emod_nonneg n (show hi - lo + 1 ≠ 0 by omega)
    have q2 := Int.emod_lt_of_pos n (show 0 < hi - lo + 1 by omega)
    simp only [Bool.false_eq_true, if_false]
    omega
theorem tmod_emod (n : Int) {c : Int} (hc : 0 < c) : Int.tmod n c % c = n % c := by
  rw [Int.tmod_def, Int.sub_emod, Int.mul_emod_right]; simp
def fitQ (p : Pl) : Pl := { p with cores := fitI p.cores 1 4, banks := fitI p.banks 1 4, pages := fitI p.pages 1 16, lines := fitI p.lines 1 8, arity := fitI p.arity 2 4, minor := fitI p.minor 1 8, major := if p.major > 4294967296 then 4294967296 else p.major, ns := fitI p.ns 1 4, nw := fitI p.nw 1 4, fs := fitI p.fs 1 4, fw := fitI p.fw 1 4, queue := fitI p.queue 1 4, kind := p.kind % 2 }
def fitP (p : Pl) : Pl := { fitQ p with mt := leastI (fitQ p) + p.mt % 4 }

theorem Pl.nats {p : Pl} (h : shB p = true) : ∃ n a : Nat, p.pages = n ∧ p.arity = a ∧ 1 ≤ n ∧ n < 17 ∧ 2 ≤ a ∧ a < 5 ∧ wsOf p = wds a 5 n := by
  have := shB_iff.1 h
  refine ⟨p.pages.toNat, p.arity.toNat, by omega, by omega, by omega, by omega, by omega, by omega, rfl⟩
theorem lvN_in {p : Pl} (h : shB p = true) : 1 ≤ lvN p ∧ lvN p ≤ 5 := by
  obtain ⟨n, a, _, _, h1, h2, h3, h4, e⟩ := Pl.nats h
  have f := wds_facts n h2 a h4 h1 h3
  unfold lvN; rw [h, if_pos rfl, e]
  omega
theorem leastI_in {p : Pl} (h : shB p = true) : 2 ≤ leastI p ∧ leastI p ≤ 21 := by
  have h1 := lvN_in h
  have h2 := shB_iff.1 h
  unfold leastI
  rw [h, if_pos rfl]
  have a1 : p.banks * 1 ≤ p.banks * lvN p := Int.mul_le_mul_of_nonneg_left h1.1 (by omega)
  have a2 : p.banks * lvN p ≤ p.banks * 5 := Int.mul_le_mul_of_nonneg_left h1.2 (by omega)
  omega
theorem shB_fitQ (p : Pl) : shB (fitQ p) = true := by
  rw [shB_iff]
  unfold fitQ
  exact ⟨fitI_in (by omega), fitI_in (by omega), fitI_in (by omega), fitI_in (by omega)⟩
theorem shB_mt (p : Pl) (m : Int) : shB { p with mt := m } = shB p := rfl
theorem leastI_mt (p : Pl) (m : Int) : leastI { p with mt := m } = leastI p := rfl
theorem rightB_fit (p : Pl) : rightB (fitP p) = true := by
  have h1 := leastI_in (shB_fitQ p)
  unfold rightB
  have e1 : shB (fitP p) = true := shB_fitQ p
  have e2 : leastI (fitP p) = leastI (fitQ p) := rfl
  rw [e1, e2]
  simp only [Bool.true_and, Bool.and_eq_true, inB_iff, decide_eq_true_eq, Bool.or_eq_true, beq_iff_eq]
  unfold fitP
  simp only
  refine ⟨⟨⟨⟨⟨⟨⟨⟨⟨?_, ?_⟩, ?_⟩, ?_⟩, ?_⟩, ?_⟩, ?_⟩, ?_⟩, ?_⟩, ?_⟩
  · exact fitI_in (by omega)
  · exact fitI_in (by omega)
  · exact fitI_in (by omega)
  · exact fitI_in (by omega)
  · exact fitI_in (by omega)
  · exact fitI_in (by omega)
  · exact fitI_in (by omega)
  · unfold fitQ; simp only; split <;> omega
  · unfold fitQ; simp only; omega
  · omega
def sixL (p : Pl) : List Int := [p.cores, p.ns, p.nw, p.fs, p.fw, p.queue]
theorem rightB_iff {p : Pl} : rightB p = true ↔ shB p = true ∧ (∀ x ∈ sixL p, 1 ≤ x ∧ x ≤ 4) ∧ (1 ≤ p.minor ∧ p.minor ≤ 8) ∧ p.major ≤ 4294967296 ∧ (p.kind = 0 ∨ p.kind = 1) ∧ leastI p ≤ p.mt ∧ p.mt ≤ 64 := by
  unfold rightB sixL
  simp [inB_iff, and_assoc]
theorem wd_no {p : Pl} {l : Int} (h : shB p = false ∨ l < 0 ∨ 16 < l) : wd p l = 0 := by
  unfold wd
  split
  · rename_i h2
    obtain ⟨h2, h3⟩ := h2
    rw [h2] at h
    obtain ⟨n, a, _, _, g1, g2, g3, g4, e⟩ := Pl.nats h2
    have f := wds_facts n g2 a g4 g1 g3
    rw [e, List.getD_eq_getElem?_getD, List.getElem?_eq_none (by simp at h; omega)]; rfl
  · rfl
theorem wd_at {p : Pl} (h : shB p = true) (k : Nat) : wd p k = (((wsOf p).getD k 0 : Nat) : Int) := by
  unfold wd; rw [if_pos ⟨h, by omega⟩, Int.toNat_natCast]
theorem wd_zero {p : Pl} (h : shB p = true) : wd p 0 = p.pages := by
  obtain ⟨n, a, e1, _, g1, g2, g3, g4, e⟩ := Pl.nats h
  have f := (wds_facts n g2 a g4 g1 g3).2.2.1
  have := wd_at h 0
  rw [show ((0 : Nat) : Int) = 0 from rfl] at this
  rw [this, e, List.getD_eq_getElem?_getD, f, e1]; rfl
theorem wd_step {p : Pl} (h : shB p = true) (k : Nat) (hk : k < (wsOf p).length) : 1 ≤ wd p k ∧ wd p k ≤ 16 ∧ (wd p k = 1 → k + 1 = (wsOf p).length) ∧ (wd p k ≠ 1 → k + 1 < (wsOf p).length ∧ wd p ((k : Int) + 1) = (wd p k + p.arity - 1) / p.arity) := by
  have hk1 := wd_at h (k + 1)
  rw [wd_at h k, show ((k : Int) + 1) = ((k + 1 : Nat) : Int) by omega, hk1]
  obtain ⟨n, a, e1, e2, g1, g2, g3, g4, e⟩ := Pl.nats h
  rw [e] at hk ⊢
  have f := (wds_facts n g2 a g4 g1 g3).2.2.2 k hk
  rw [e2]
  generalize (wds a 5 n).length = L at *
  generalize (wds a 5 n).getD k 0 = x at *
  generalize (wds a 5 n).getD (k + 1) 0 = y at *
  refine ⟨by omega, by omega, fun e => by omega, fun e => ?_⟩
  have q := f.2.2.2 (by omega)
  refine ⟨by omega, ?_⟩
  rw [q.2]
  have : ((x + a - 1 : Nat) : Int) = (x : Int) + a - 1 := by omega
  rw [← this, Int.natCast_ediv]
theorem wd_end {p : Pl} (h : shB p = true) (k : Nat) (hk : (wsOf p).length ≤ k) : wd p k = 0 := by
  rw [wd_at h k, List.getD_eq_getElem?_getD, List.getElem?_eq_none hk]; rfl
theorem ws_len {p : Pl} (h : shB p = true) : 1 ≤ (wsOf p).length ∧ (wsOf p).length ≤ 5 := by
  obtain ⟨n, a, e1, e2, g1, g2, g3, g4, e⟩ := Pl.nats h
  have f := wds_facts n g2 a g4 g1 g3
  rw [e]; omega
theorem arity_in {p : Pl} (h : shB p = true) : p.arity = 2 ∨ p.arity = 3 ∨ p.arity = 4 := by
  have := shB_iff.1 h; omega
theorem lvN_eq {p : Pl} (h : shB p = true) : lvN p = ((wsOf p).length : Int) := by unfold lvN; rw [if_pos h]
end Go.Bst
