/- The example of package trace's document; a call of the laws' arguments. Conditions: none. -/
import Derived.Test.YtbkfhieadnfndaaTr
set_option linter.unusedVariables false
set_option linter.unusedSimpArgs false
namespace Go.Proofs.Ytbkfhieadnfndaa
open Go.RowKit Go.Bst Go.MapKept
attribute [local irreducible] wpList Calls Code.wp Code.wpN Oper.wp Go.Proofs.YtbkfhieadnfndaaW.PrintLast.wpAnyLast

def se0 : Ent := ⟨0, 0, 0, 0, 0, 0, 3, 0, false, 0⟩
def se1 : Ent := ⟨1, 0, 0, 0, 0, 0, 4, 0, false, 0⟩
theorem se0_ok : se0.Ok := by simp [Ent.Ok, se0, Ent.cs, entK, fitAll, SK.fits, IntKind.min, IntKind.max, IntKind.signed, IntKind.bits]
theorem se1_ok : se1.Ok := by simp [Ent.Ok, se1, Ent.cs, entK, fitAll, SK.fits, IntKind.min, IntKind.max, IntKind.signed, IntKind.bits]
set_option maxRecDepth 100000 in
set_option maxHeartbeats 1000000 in
theorem trace_speaks {E : Env} {w : World} {F : List HP} (hw : Sat E w F) :
    Calls Try.prog 24 #[] w fun e w' => e = .returned (.bool true) ∧ Sat E w' F := by
  go_enter Try.func24, Try.ntmps24
  go_wp2_with (first
    | (go_at_call 25; refine (trace_new hw (c := 2) (cores := 2) (by omega)).mono ?_; clear hw; rintro e w ⟨l, rfl, hw⟩))
  refine (trace_begin (k := 0) (a := 0) (n := 0) (v := 0) (w' := 0) hw (by omega) rfl se0_ok (by simp)).mono ?_
  clear hw; rintro e w ⟨rfl, hw⟩
  go_wp2_with (fail)
  refine (trace_begin (k := 0) (a := 0) (n := 0) (v := 0) (w' := 0) hw (by omega) rfl se1_ok (by simp)).mono ?_
  clear hw; rintro e w ⟨rfl, hw⟩
  go_wp2_with (first
    | (go_at_call 26; go_must (refine (trace_end (i := 1) (en := se1) hw (by omega) rfl rfl ⟨0, rfl, by decide, by decide⟩ ⟨9, rfl, by decide, by decide⟩ (by simp)).mono ?_); clear hw; rintro e w ⟨rfl, hw⟩)
    | (go_at_call 30; go_must (refine (trace_open (i := 0) (en := se0) hw rfl rfl).mono ?_); clear hw; rintro e w ⟨rfl, hw⟩)
    | (refine wl_alloc hw ent_zero ?_; clear hw; intro b w hw; (try simp only [List.set_cons_succ, List.set_cons_zero, List.setIfInBounds_toArray, Value.cells, List.eraseIdx_cons_succ, List.eraseIdx_cons_zero] at hw))
    | (refine wl_store_all (vs := se0.cs) hw rfl 0 rfl rfl ent_size rfl (Ent.one _) ?_; clear hw; intro w hw; (try simp only [List.set_cons_succ, List.set_cons_zero, List.setIfInBounds_toArray, Value.cells, List.eraseIdx_cons_succ, List.eraseIdx_cons_zero] at hw))
    | (go_at_call 34; go_must (refine (trace_done (hw.front 1 rfl) (by simp)).mono ?_); clear hw; rintro e w ⟨v, rfl, hw⟩; (try simp only [List.set_cons_succ, List.set_cons_zero, List.setIfInBounds_toArray, Value.cells, List.eraseIdx_cons_succ, List.eraseIdx_cons_zero] at hw); obtain ⟨A, c, rfl, _, _⟩ := Row_val hw 0 rfl))
  go_ret
  exact ⟨rfl, hw.tail.tail.tail⟩

def callK19 : List SK := [.bool, .int .i64, .int .i64, .int .i64, .int .i64, .int .i64, .int .u64, .int .u64, .int .u64]
theorem call19_kinds : skinds Try.prog 9 61 = some callK19 := by kernel_rfl
theorem u_calls19 : Try.prog.underlying 49 = some (.slice 61) := by kernel_rfl
theorem call19_size : (Try.prog.info? 61).map (·.size) = some 9 := by kernel_rfl
theorem call19_agg : aggSize Try.prog 61 = some 9 := by kernel_rfl
def ccs (t : Bool) (c at' k a n v w res : Int) : Array Value := #[.bool t, .int .i64 c, .int .i64 at', .int .i64 k, .int .i64 a, .int .i64 n, .int .u64 v, .int .u64 w, .int .u64 res]
theorem call19_zero : zeroOf Try.prog 61 = some (.agg (ccs false 0 0 0 0 0 0 0 0)) := by kernel_rfl
theorem ccs_one (t : Bool) (c at' k a n v w res : Int) : (ccs t c at' k a n v w res).all (·.oneCell') = true := by simp [ccs, Value.oneCell']
set_option maxRecDepth 100000 in
theorem Call19.form {cs : Array Value} (h : fitAll callK19 cs.toList) : ∃ t c at' k a n v w res, cs = ccs t c at' k a n v w res ∧ (Ent.mk c k a n v w at' 0 false 0).Ok ∧ SK.fits (.int .u64) (.int .u64 res) ∧ SK.fits (.int .i64) (.int .i64 at') := by
  obtain ⟨l⟩ := cs
  have hl := fitAll_len h
  match l, hl with
  | [v1, v2, v3, v4, v5, v6, v7, v8, v9], _ =>
    obtain ⟨h1, h2, h3, h4, h5, h6, h7, h8, h9, _⟩ := h
    obtain ⟨t, rfl⟩ := h1
    obtain ⟨c, rfl, c1, c2⟩ := h2
    obtain ⟨at', rfl, d1, d2⟩ := h3
    obtain ⟨k, rfl, e1, e2⟩ := h4
    obtain ⟨a, rfl, f1, f2⟩ := h5
    obtain ⟨n, rfl, g1, g2⟩ := h6
    obtain ⟨v, rfl, i1, i2⟩ := h7
    obtain ⟨w, rfl, j1, j2⟩ := h8
    obtain ⟨res, rfl, k1, k2⟩ := h9
    exact ⟨t, c, at', k, a, n, v, w, res, rfl, ⟨⟨c, rfl, c1, c2⟩, ⟨k, rfl, e1, e2⟩, ⟨a, rfl, f1, f2⟩, ⟨n, rfl, g1, g2⟩, ⟨v, rfl, i1, i2⟩, ⟨w, rfl, j1, j2⟩, ⟨at', rfl, d1, d2⟩, ⟨0, rfl, by decide, by decide⟩, ⟨false, rfl⟩, ⟨0, rfl, by decide, by decide⟩, trivial⟩, ⟨res, rfl, k1, k2⟩, ⟨at', rfl, d1, d2⟩⟩
end Go.Proofs.Ytbkfhieadnfndaa
