/- The statement WatchCoresSaid: for every input the law WatchCores returns true, and its arguments read as they did. Conditions: none. -/
import Derived.Test.YtklhmlplabkoeaaWchD
import Derived.Test.YtklhmlplabkoeaaFormP
import Derived.Test.YtklhmlplabkoeaaLiftN
set_option linter.unusedVariables false
namespace Go.Proofs.Ytklhmlplabkoeaa
open Go.ChangeShapes Go.WideShapes Go.ChangeAt Go.RowKit Go.Bst
theorem list_form {α β : Type} {f : α → β} {q : α → Prop} {P : β → Prop} (h : ∀ b, P b → ∃ a, b = f a ∧ q a) : ∀ {l : List β}, (∀ b ∈ l, P b) → ∃ zs : List α, l = zs.map f ∧ ∀ a ∈ zs, q a
  | [], _ => ⟨[], rfl, by simp⟩
  | b :: l, hl => by
    obtain ⟨zs, e1, e2⟩ := list_form h (l := l) (fun x hx => hl x (List.mem_cons_of_mem _ hx))
    obtain ⟨a, rfl, e3⟩ := h b (hl b List.mem_cons_self)
    refine ⟨a :: zs, by rw [e1]; rfl, fun x hx => ?_⟩
    rcases List.mem_cons.1 hx with rfl | hx
    · exact e3
    · exact e2 x hx
theorem okAll_cons {w : World} {k : NK} {ks : List NK} {l : List Value} (h : okAll w (k :: ks) l) : ∃ v vs, l = v :: vs ∧ k.ok w v ∧ okAll w ks vs := by
  cases l with
  | nil => exact h.elim
  | cons v vs => exact ⟨v, vs, rfl, h.1, h.2⟩
theorem okAll_nil {w : World} {l : List Value} (h : okAll w [] l) : l = [] := by
  cases l with
  | nil => rfl
  | cons v vs => exact h.elim
theorem okAll_fit {w : World} : ∀ {ks : List SK} {vs : List Value}, okAll w (ks.map .k) vs → fitAll ks vs
  | [], [], _ => trivial
  | _ :: _, _ :: _, h => ⟨h.1, okAll_fit h.2⟩
  | [], _ :: _, h => h.elim
  | _ :: _, [], h => h.elim
theorem okAll_split {w : World} : ∀ {a b : List NK} {vs : List Value}, okAll w (a ++ b) vs → okAll w a (vs.take a.length) ∧ okAll w b (vs.drop a.length)
  | [], b, vs, h => ⟨by simp [okAll], by simpa using h⟩
  | k :: a, b, [], h => h.elim
  | k :: a, b, v :: vs, h => by
    have := okAll_split (a := a) (b := b) (vs := vs) h.2
    exact ⟨⟨h.1, this.1⟩, this.2⟩
def nearK : List SK := .int .i64 :: .int .i64 :: lineK
def farK : List SK := .int .i64 :: .int .i64 :: .int .i64 :: .bool :: lineK
theorem dat_form {l : List Value} (h : fitAll lineK l) : ∃ d : Dat, d.c.toList = l :=
  ⟨⟨l.toArray, by have := fitAll_len h; simpa using this, by have := fitAll_one h; simpa using this, by simpa using h⟩, by simp⟩
theorem near_form {m : Array Value} (h : fitAll nearK m.toList) : ∃ x : Nev, m = x.cs ∧ i64B x.line := by
  obtain ⟨l⟩ := m
  change fitAll (.int .i64 :: .int .i64 :: lineK) l at h
  obtain ⟨v0, l0, rfl, f0, k0⟩ := fits_cons h
  obtain ⟨v1, l1, rfl, f1, k1⟩ := fits_cons k0
  obtain ⟨x0, rfl, g0⟩ := fits_i64_out f0
  obtain ⟨x1, rfl, g1⟩ := fits_i64_out f1
  obtain ⟨d, hd⟩ := dat_form k1
  refine ⟨⟨x0, x1, d⟩, ?_, g0⟩
  unfold Nev.cs
  apply Array.ext'
  rw [Array.toList_append, hd] <;> rfl
theorem fits_bool_out {v : Value} (h : SK.fits .bool v) : ∃ b, v = .bool b := h
theorem far_form {m : Array Value} (h : fitAll farK m.toList) : ∃ x : Fav, m = x.cs ∧ i64B x.line := by
  obtain ⟨l⟩ := m
  change fitAll (.int .i64 :: .int .i64 :: .int .i64 :: .bool :: lineK) l at h
  obtain ⟨v0, l0, rfl, f0, k0⟩ := fits_cons h
  obtain ⟨v1, l1, rfl, f1, k1⟩ := fits_cons k0
  obtain ⟨v2, l2, rfl, f2, k2⟩ := fits_cons k1
  obtain ⟨v3, l3, rfl, f3, k3⟩ := fits_cons k2
  obtain ⟨x0, rfl, g0⟩ := fits_i64_out f0
  obtain ⟨x1, rfl, g1⟩ := fits_i64_out f1
  obtain ⟨x2, rfl, g2⟩ := fits_i64_out f2
  obtain ⟨x3, rfl⟩ := fits_bool_out f3
  obtain ⟨d, hd⟩ := dat_form k3
  refine ⟨⟨x0, x1, x2, x3, d⟩, ?_, g0⟩
  unfold Fav.cs
  apply Array.ext'
  rw [Array.toList_append, hd] <;> rfl
def coreA : List SK := [.int .i64, .int .i64, .int .i64, .int .i64, .int .u64, .int .u64]
def coreB : List SK := .int .i64 :: .int .i64 :: (lineK ++ [.bool])
def coreNK : List NK := coreA.map .k ++ .sl nearK :: coreB.map .k
def bankA : List SK := [.int .i64, .int .i64, .int .i64, .int .i64, .int .i64, .bool, .bool, .int .u8, .int .u8, .int .u8, .int .u8, .int .u8, .int .u8, .int .u8, .int .u8, .int .u8, .int .u8, .int .u8, .int .u8, .int .u8, .int .u8, .int .u8, .int .u8, .int .u8, .int .u8, .int .u8, .int .u8, .int .u8, .int .u8, .int .u8, .int .u8, .int .u8, .int .u8, .int .u8, .int .u8, .int .u8, .int .u8, .int .u8, .int .u8, .int .i64, .int .i64, .int .i64, .bool]
def bankNK : List NK := bankA.map .k ++ .sl farK :: []
theorem core_kinds : nkinds Try.prog 9 40 = some coreNK := by kernel_rfl
theorem bank_kinds : nkinds Try.prog 9 45 = some bankNK := by kernel_rfl
theorem cov_form {w : World} (m : Array Value) (h : okAll w coreNK m.toList) : ∃ x : Cov, m = x.cs ∧ Rd w 34 (.slice x.A x.ls.length x.cap) x.ls.length (flat (x.ls.map Nev.cs)) ∧ NearsIn x := by
  obtain ⟨l⟩ := m
  have h1 := okAll_split (a := coreA.map .k) (b := .sl nearK :: coreB.map .k) h
  obtain ⟨h1, h2⟩ := h1
  have ha := okAll_fit h1
  have hal := fitAll_len ha
  obtain ⟨v, l2, e2, hv, h3⟩ := okAll_cons h2
  have hb := okAll_fit h3
  have hbl := fitAll_len hb
  obtain ⟨q, hq, hq2⟩ := hv
  obtain ⟨ls, rfl, hls⟩ := list_form (f := Nev.cs) (fun b hb => near_form hb) hq2
  obtain ⟨A, cap, rfl, hcap⟩ := hq.form
  rw [show (ls.map Nev.cs).length = ls.length by simp] at hq e2
  refine ⟨⟨(l.take 6).toArray, A, cap, ls, l2.toArray, ?_, ?_, ?_, ?_⟩, ?_, hq, hls⟩
  · rw [List.size_toArray]; exact hal
  · rw [List.size_toArray, hbl]; rfl
  · have := fitAll_one ha
    have h6 : (l.take 6).all (·.oneCell') = true := this
    simpa using h6
  · have := fitAll_one hb; simpa using this
  · unfold Cov.cs
    apply Array.ext'
    rw [Array.toList_append, Array.toList_append]
    show l = l.take 6 ++ [.slice A ls.length cap] ++ l2
    have : l.drop 6 = .slice A ls.length cap :: l2 := e2
    rw [List.append_assoc, List.singleton_append, ← this, List.take_append_drop]
theorem bav_form {w : World} (m : Array Value) (h : okAll w bankNK m.toList) : ∃ x : Bav, m = x.cs ∧ Rd w 36 (.slice x.A x.ls.length x.cap) x.ls.length (flat (x.ls.map Fav.cs)) ∧ FarsIn x := by
  obtain ⟨l⟩ := m
  have h1 := okAll_split (a := bankA.map .k) (b := .sl farK :: []) h
  obtain ⟨h1, h2⟩ := h1
  have ha := okAll_fit h1
  have hal := fitAll_len ha
  obtain ⟨v, l2, e2, hv, h3⟩ := okAll_cons h2
  obtain rfl := okAll_nil h3
  obtain ⟨q, hq, hq2⟩ := hv
  obtain ⟨ls, rfl, hls⟩ := list_form (f := Fav.cs) (fun b hb => far_form hb) hq2
  obtain ⟨A, cap, rfl, hcap⟩ := hq.form
  rw [show (ls.map Fav.cs).length = ls.length by simp] at hq e2
  refine ⟨⟨(l.take 43).toArray, A, cap, ls, ?_, ?_⟩, ?_, hq, hls⟩
  · rw [List.size_toArray]; exact hal
  · have := fitAll_one ha
    have h43 : (l.take 43).all (·.oneCell') = true := this
    simpa using h43
  · unfold Bav.cs
    apply Array.ext'
    rw [Array.toList_append, Array.toList_append]
    show l = l.take 43 ++ [.slice A ls.length cap] ++ []
    have : l.drop 43 = .slice A ls.length cap :: [] := e2
    rw [List.append_nil, ← this, List.take_append_drop]
theorem watchCores_row {W : World} {c : Array Value} {A B : Option Addr} {cap capB : Nat} {l r : List (Array Value)} (m0 : fitAll planK c.toList)
    (hl : Rd W 42 (.slice A l.length cap) l.length (flat l)) (ml : ∀ x ∈ l, okAll W coreNK x.toList) (hr : Rd W 44 (.slice B r.length capB) r.length (flat r)) (mr : ∀ x ∈ r, okAll W bankNK x.toList) :
    Calls Try.prog 3 #[.agg c, .slice A l.length cap, .slice B r.length capB] W fun e w' => e = .returned (.bool true) ∧ Sat (World.env W) w' [Old W] := by
  obtain ⟨p, rfl, hp⟩ := plan_form m0
  obtain ⟨cs, rfl, hcs⟩ := list_form (f := Cov.cs) (fun b hb => cov_form b hb) ml
  obtain ⟨bs, rfl, hbs⟩ := list_form (f := Bav.cs) (fun b hb => bav_form b hb) mr
  rw [List.length_map] at hl hr ⊢
  rw [List.length_map]
  exact law_WatchCores hp hl hcs hr hbs

theorem watchCores_own : ownKnob Try.prog.godebug = none := by kernel_rfl
theorem watchCores_laidOut : laidOutB Try.prog = true := by kernel_rfl
set_option maxRecDepth 100000 in
theorem watchCores_lifted (os : Os) (started : os.Started) (H : Type) (enc : TypeId × Value → H) :
    ReturnsInHanded {} Try.checked os 3 .any (Rows.watchCoresSpec.pre6 enc Try.prog Try.f3 Rows.watchCoresRow.domain false) (Rows.watchCoresSpec.post enc Try.prog Try.f3 false true false false) := by
  refine returnsInHanded_of_change (C := Try.checked) watchCores_own started (by kernel_rfl) Try.func3
    (ChangeSpec.witness6 (enc := enc) (C := Try.checked) false ⟨#[], #[planV, .slice none 0 0, .slice none 0 0], []⟩ 16 (by kernel_rfl) (by kernel_rfl) (by kernel_rfl) (by kernel_rfl)) ?_
  intro W base args ds gs before hval0 hW hcnd _
  have hval : ∀ (j : Nat) t v, Try.f3.params[j]? = some t → args[j]? = some v → Value.okWide Try.prog W .any base t v := hval0
  have hW' := hW
  obtain ⟨p, q, hA0, hV, rfl, hfz, hnd⟩ := hW
  have hA : DataW.TrodAll enc Try.prog W 0 (fun _ => true) true Try.f3.params.toList args.toList ds p := hA0
  rw [Try.params3] at hA hval
  obtain ⟨v0, vs0, d0, ds0, p0, q0, hargs, rfl, rfl, h0, r0⟩ := trodAll_cons hA
  obtain ⟨v1, vs1, d1, ds1, p1, q1, rfl, rfl, rfl, h1, r1⟩ := trodAll_cons r0
  obtain ⟨v2, vs2, d2, ds2, p2, q2, rfl, rfl, rfl, h2, r2⟩ := trodAll_cons r1
  obtain ⟨rfl, rfl, rfl⟩ := trodAll_nil r2
  obtain rfl : args = #[v0, v1, v2] := by cases args; simp_all
  obtain ⟨rfl, rfl⟩ := trodVars_none hV
  have k0 := h0
  have lt0 : ∀ x ∈ p0, x.block < W.heap.size := by obtain ⟨m, hm⟩ := k0; exact DataW.trod_lt m _ _ _ hm
  obtain ⟨c0, rfl, cz0⟩ := okWide_struct Try.underlying28 (hval 0 28 v0 rfl rfl)
  have m0 : fitAll planK c0.toList := by obtain ⟨m, hm⟩ := h0; exact (fitOk Try.prog 9 _ _ plan_kinds enc W _ _ _ m _ _ hm).1
  have k1 := h1
  have lt1 : ∀ x ∈ p1, x.block < W.heap.size := by obtain ⟨m, hm⟩ := k1; exact DataW.trod_lt m _ _ _ hm
  obtain ⟨A1, len1, cap1, rfl⟩ := okWide_slice Try.underlying29 (hval 1 29 v1 rfl rfl)
  obtain ⟨l1, rfl, rd1, m1⟩ := open_nest (d := 9) (ks := coreNK) Try.underlying29 core_kinds h1
  have k2 := h2
  have lt2 : ∀ x ∈ p2, x.block < W.heap.size := by obtain ⟨m, hm⟩ := k2; exact DataW.trod_lt m _ _ _ hm
  obtain ⟨A2, len2, cap2, rfl⟩ := okWide_slice Try.underlying30 (hval 2 30 v2 rfl rfl)
  obtain ⟨l2, rfl, rd2, m2⟩ := open_nest (d := 9) (ks := bankNK) Try.underlying30 bank_kinds h2
  clear hA0 hval0
  refine (watchCores_row m0 rd1 m1 rd2 m2).mono fun e W' ⟨he, hs⟩ => ?_
  subst he
  have bel := hs.belowOld 0 rfl
  exact ⟨_, rfl, _, _, _, [], _, [], hW', trodAll_mk1 (shut_bool Try.underlying4 _), (trodAll_cons_mk (Below.trod watchCores_laidOut (by kernel_rfl) (of_decide_eq_true (by kernel_rfl)) k0 bel lt0) (trodAll_cons_mk (Below.trod watchCores_laidOut (by kernel_rfl) (of_decide_eq_true (by kernel_rfl)) k1 bel lt1) (trodAll_cons_mk (Below.trod watchCores_laidOut (by kernel_rfl) (of_decide_eq_true (by kernel_rfl)) k2 bel lt2) trodAll_mk0))), rfl, bel.frame _, fun h => by cases h⟩

theorem watchCores_over : Rows.watchCoresRow.holds Try.pinned (OpenSpec.ofChange Rows.watchCoresSpec) :=
  OpenClaim.holds_of_wide 3 Try.f3 rfl rfl rfl rfl rfl rfl rfl ⟨rfl, rfl, rfl, rfl, rfl⟩ rfl rfl rfl rfl rfl (by kernel_rfl) Try.func3 (by kernel_rfl)
    (of_decide_eq_true (by kernel_rfl)) (by unfold Func.isWrapper; first | (rw [if_pos (by decide +kernel)]; kernel_rfl) | (rw [if_neg (by decide +kernel)]; exact ⟨rfl, rfl⟩))
    (fun os started H enc _ => watchCores_lifted os started H enc)

theorem watchCores_holds : Rows.WatchCoresSaid := watchCores_over
#print axioms watchCores_holds
end Go.Proofs.Ytklhmlplabkoeaa
