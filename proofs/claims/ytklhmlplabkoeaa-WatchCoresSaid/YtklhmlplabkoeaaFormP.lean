/- From kinds of cells to a plan. Conditions: none. -/
import Derived.Test.YtklhmlplabkoeaaPlL
import Derived.Test.YtklhmlplabkoeaaBlk
import Derived.Test.YtklhmlplabkoeaaProg
set_option linter.unusedVariables false
set_option linter.unusedSimpArgs false
namespace Go.Proofs.Ytklhmlplabkoeaa
open Go.RowKit Go.Bst
theorem fits_cons {k : SK} {ks : List SK} {l : List Value} (h : fitAll (k :: ks) l) : ∃ v vs, l = v :: vs ∧ k.fits v ∧ fitAll ks vs := by
  cases l with
  | nil => exact h.elim
  | cons v vs => exact ⟨v, vs, rfl, h.1, h.2⟩
theorem fits_i64_out {v : Value} (h : SK.fits (.int .i64) v) : ∃ n, v = .int .i64 n ∧ i64B n := by
  obtain ⟨n, rfl, h1, h2⟩ := h
  exact ⟨n, rfl, by simpa [IntKind.min, IntKind.signed, IntKind.bits] using h1, by simpa [IntKind.max, IntKind.signed, IntKind.bits] using h2⟩
theorem len_cons {α : Type} {l : List α} {n : Nat} (h : l.length = n + 1) : ∃ a m, l = a :: m ∧ m.length = n := by
  cases l with
  | nil => simp at h
  | cons a m => exact ⟨a, m, rfl, by simpa using h⟩
theorem fits_nil {l : List Value} (h : fitAll [] l) : l = [] := by
  cases l with
  | nil => rfl
  | cons v vs => exact h.elim
def planK : List SK := .int .i64 :: .int .i64 :: .int .i64 :: .int .i64 :: .int .i64 :: .int .i64 :: .int .u64 :: .int .i64 :: .int .i64 :: .int .i64 :: .int .i64 :: .int .i64 :: .int .i64 :: .int .i64 :: List.replicate 32 (.int .u8)
theorem plan_kinds : skinds Try.prog 9 28 = some planK := by kernel_rfl
theorem plan_form {c : Array Value} (h : fitAll planK c.toList) : ∃ p : Pl, c = p.cs ∧ p.Ok := by
  obtain ⟨l⟩ := c
  change fitAll (.int .i64 :: .int .i64 :: .int .i64 :: .int .i64 :: .int .i64 :: .int .i64 :: .int .u64 :: .int .i64 :: .int .i64 :: .int .i64 :: .int .i64 :: .int .i64 :: .int .i64 :: .int .i64 :: List.replicate 32 (.int .u8)) l at h
  obtain ⟨v0, l0, rfl, f0, k0⟩ := fits_cons h
  obtain ⟨v1, l1, rfl, f1, k1⟩ := fits_cons k0
  obtain ⟨v2, l2, rfl, f2, k2⟩ := fits_cons k1
  obtain ⟨v3, l3, rfl, f3, k3⟩ := fits_cons k2
  obtain ⟨v4, l4, rfl, f4, k4⟩ := fits_cons k3
  obtain ⟨v5, l5, rfl, f5, k5⟩ := fits_cons k4
  obtain ⟨v6, l6, rfl, f6, k6⟩ := fits_cons k5
  obtain ⟨v7, l7, rfl, f7, k7⟩ := fits_cons k6
  obtain ⟨v8, l8, rfl, f8, k8⟩ := fits_cons k7
  obtain ⟨v9, l9, rfl, f9, k9⟩ := fits_cons k8
  obtain ⟨v10, l10, rfl, f10, k10⟩ := fits_cons k9
  obtain ⟨v11, l11, rfl, f11, k11⟩ := fits_cons k10
  obtain ⟨v12, l12, rfl, f12, k12⟩ := fits_cons k11
  obtain ⟨v13, l13, rfl, f13, k13⟩ := fits_cons k12
  obtain ⟨x0, rfl, g0⟩ := fits_i64_out f0
  obtain ⟨x1, rfl, g1⟩ := fits_i64_out f1
  obtain ⟨x2, rfl, g2⟩ := fits_i64_out f2
  obtain ⟨x3, rfl, g3⟩ := fits_i64_out f3
  obtain ⟨x4, rfl, g4⟩ := fits_i64_out f4
  obtain ⟨x5, rfl, g5⟩ := fits_i64_out f5
  obtain ⟨x6, rfl, a6, b6⟩ := f6
  have g6 : 0 ≤ x6 ∧ x6 ≤ 18446744073709551615 := ⟨by simpa [IntKind.min, IntKind.signed] using a6, by simpa [IntKind.max, IntKind.signed, IntKind.bits] using b6⟩
  obtain ⟨x7, rfl, g7⟩ := fits_i64_out f7
  obtain ⟨x8, rfl, g8⟩ := fits_i64_out f8
  obtain ⟨x9, rfl, g9⟩ := fits_i64_out f9
  obtain ⟨x10, rfl, g10⟩ := fits_i64_out f10
  obtain ⟨x11, rfl, g11⟩ := fits_i64_out f11
  obtain ⟨x12, rfl, g12⟩ := fits_i64_out f12
  obtain ⟨x13, rfl, g13⟩ := fits_i64_out f13
  obtain ⟨bs, rfl, hn0⟩ := fits_bytes k13
  obtain ⟨c0, bs0, rfl, hn1⟩ := len_cons hn0
  obtain ⟨c1, bs1, rfl, hn2⟩ := len_cons hn1
  obtain ⟨c2, bs2, rfl, hn3⟩ := len_cons hn2
  obtain ⟨c3, bs3, rfl, hn4⟩ := len_cons hn3
  obtain ⟨c4, bs4, rfl, hn5⟩ := len_cons hn4
  obtain ⟨c5, bs5, rfl, hn6⟩ := len_cons hn5
  obtain ⟨c6, bs6, rfl, hn7⟩ := len_cons hn6
  obtain ⟨c7, bs7, rfl, hn8⟩ := len_cons hn7
  obtain ⟨c8, bs8, rfl, hn9⟩ := len_cons hn8
  obtain ⟨c9, bs9, rfl, hn10⟩ := len_cons hn9
  obtain ⟨c10, bs10, rfl, hn11⟩ := len_cons hn10
  obtain ⟨c11, bs11, rfl, hn12⟩ := len_cons hn11
  obtain ⟨c12, bs12, rfl, hn13⟩ := len_cons hn12
  obtain ⟨c13, bs13, rfl, hn14⟩ := len_cons hn13
  obtain ⟨c14, bs14, rfl, hn15⟩ := len_cons hn14
  obtain ⟨c15, bs15, rfl, hn16⟩ := len_cons hn15
  obtain ⟨c16, bs16, rfl, hn17⟩ := len_cons hn16
  obtain ⟨c17, bs17, rfl, hn18⟩ := len_cons hn17
  obtain ⟨c18, bs18, rfl, hn19⟩ := len_cons hn18
  obtain ⟨c19, bs19, rfl, hn20⟩ := len_cons hn19
  obtain ⟨c20, bs20, rfl, hn21⟩ := len_cons hn20
  obtain ⟨c21, bs21, rfl, hn22⟩ := len_cons hn21
  obtain ⟨c22, bs22, rfl, hn23⟩ := len_cons hn22
  obtain ⟨c23, bs23, rfl, hn24⟩ := len_cons hn23
  obtain ⟨c24, bs24, rfl, hn25⟩ := len_cons hn24
  obtain ⟨c25, bs25, rfl, hn26⟩ := len_cons hn25
  obtain ⟨c26, bs26, rfl, hn27⟩ := len_cons hn26
  obtain ⟨c27, bs27, rfl, hn28⟩ := len_cons hn27
  obtain ⟨c28, bs28, rfl, hn29⟩ := len_cons hn28
  obtain ⟨c29, bs29, rfl, hn30⟩ := len_cons hn29
  obtain ⟨c30, bs30, rfl, hn31⟩ := len_cons hn30
  obtain ⟨c31, bs31, rfl, hn32⟩ := len_cons hn31
  obtain rfl := List.eq_nil_of_length_eq_zero hn32
  refine ⟨⟨x0, x1, x2, x3, x4, x5, x6, x7, x8, x9, x10, x11, x12, x13, fun i => [c0, c1, c2, c3, c4, c5, c6, c7, c8, c9, c10, c11, c12, c13, c14, c15, c16, c17, c18, c19, c20, c21, c22, c23, c24, c25, c26, c27, c28, c29, c30, c31].getD i 0⟩, ?_, ⟨g0, g1, g2, g3, g4, g5, g6, g7, g8, g9, g10, g11, g12, g13⟩⟩
  unfold Pl.cs
  rfl
def planV : Value := .agg #[.int .i64 0, .int .i64 0, .int .i64 0, .int .i64 0, .int .i64 0, .int .i64 0, .int .u64 0, .int .i64 0, .int .i64 0, .int .i64 0, .int .i64 0, .int .i64 0, .int .i64 0, .int .i64 0, .int .u8 0, .int .u8 0, .int .u8 0, .int .u8 0, .int .u8 0, .int .u8 0, .int .u8 0, .int .u8 0, .int .u8 0, .int .u8 0, .int .u8 0, .int .u8 0, .int .u8 0, .int .u8 0, .int .u8 0, .int .u8 0, .int .u8 0, .int .u8 0, .int .u8 0, .int .u8 0, .int .u8 0, .int .u8 0, .int .u8 0, .int .u8 0, .int .u8 0, .int .u8 0, .int .u8 0, .int .u8 0, .int .u8 0, .int .u8 0, .int .u8 0, .int .u8 0]
end Go.Proofs.Ytklhmlplabkoeaa
