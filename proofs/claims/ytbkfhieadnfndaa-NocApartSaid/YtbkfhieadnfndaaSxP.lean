/- The reckoner: what it says of single operations holds. Conditions: none. -/
import Derived.Test.YtbkfhieadnfndaaSxC
set_option linter.unusedVariables false
set_option linter.unusedSimpArgs false
namespace Go.Sx
open Go Go.RowKit Go.Bst

/-- What is known of the slots holds. -/
def Knows (bl : List Blk) (s : Slots) (a : Act) : Prop := ∀ k, isV bl (get s k) (a.tmps.getD k undef)

section
variable {P : Program} {bl : List Blk} {s : Slots} {a : Act} {w : World} {d : Option Tmp} {tt : TypeId} {pos : String} {af : Array Edge} {g : Option (Nat × Bool)}
theorem isV_ofC (v : Value) : isV bl (ofC v) v := by
  cases v <;> simp [ofC, isV]
theorem ev_ok (h : Knows bl s a) (x : Operand) : isV bl (ev s x) (a.eval x) := by
  cases x with
  | tmp t => exact h t
  | const v => exact isV_ofC v
  | global g => simp [ev, isV, Act.eval]
  | func f => simp [ev, isV, Act.eval]
theorem rd_ok (h : Knows bl s a) {x : Operand} {gc : Bool} {y : SV} {o : Prop} (he : rd s gc x = (y, o)) (ho : o) (hg : gc = true) : isV bl y (a.eval x) := by
  have h1 := ev_ok h x
  unfold rd at he
  split at he
  · rename_i c z e
    rw [e] at h1
    obtain ⟨rfl, rfl⟩ := Prod.mk.inj he
    exact h1 (ho hg)
  · obtain ⟨rfl, rfl⟩ := Prod.mk.inj he
    exact h1
/-- What an operation answers. -/
def Ans (P : Program) (op : Op) (tt : TypeId) (a : Act) (w : World) (v : Value) : Prop :=
  (execOp a.eval { dst := none, op := op, type := tt, pos := "", after := #[], guard := none }).run P w = .ok (.value v) w
theorem Ans.run {op : Op} {v : Value} (h : Ans P op tt a w v) : (execOp a.eval { dst := d, op := op, type := tt, pos := pos, after := af, guard := g }).run P w = .ok (.value v) w := h
theorem cmp_ok {op : BinOp} {t yt : TypeId} {x y : Operand} {k : IntKind} {p q : Int} {b : Bool} (hx : a.eval x = .int k p) (hy : a.eval y = .int k q) (h : cmpInt op p q = some b) : Ans P (.binOp op t x y yt) tt a w (.bool b) := by
  cases op <;> simp only [cmpInt, Option.some.injEq, reduceCtorEq] at h
  · exact rn_ceql rfl hx hy b h
  · exact rn_cneq rfl hx hy b h
  · exact rn_clss rfl hx hy b h
  · exact rn_cleq rfl hx hy b h
  · exact rn_cgtr rfl hx hy b h
  · exact rn_cgeq rfl hx hy b h
theorem ar_ok {op : BinOp} {t yt : TypeId} {x y : Operand} {p q r : Int} (hx : a.eval x = .int .i64 p) (hy : a.eval y = .int .i64 q) (h : arInt op p q = some r) (hr : inR .i64 r) : Ans P (.binOp op t x y yt) tt a w (.int .i64 r) := by
  have hr' : -9223372036854775808 ≤ r ∧ r ≤ 9223372036854775807 := hr
  cases op <;> simp only [arInt, Option.some.injEq, reduceCtorEq] at h
  · exact rn_cadd rfl hx hy r h hr'
  · exact rn_csub rfl hx hy r h hr'
  · exact rn_cmul rfl hx hy r h hr'
theorem eq_bool {op : BinOp} {t yt : TypeId} {x y : Operand} {p q : Bool} (hx : a.eval x = .bool p) (hy : a.eval y = .bool q) (hk : kindOf P (.binOp .eql t x y yt) = .one) : (Op.equal t (.bool p) (.bool q)).run P w = .ok (p == q) w := by
  simp only [kindOf] at hk
  split at hk
  · rename_i e; exact run_equal_bool w t p q e
  · rename_i e h
    cases h2 : e == P.pointee t <;> simp [h2] at hk
  · cases hk
theorem eq_nil {t yt : TypeId} {x y : Operand} {z : Option Addr} {n : Nat} (hk : kindOf P (.binOp .eql t x y yt) = .off n) : (Op.equal t (.pointer z) (.pointer none)).run P w = .ok z.isNone w := by
  simp only [kindOf] at hk
  split at hk
  · cases hk
  · rename_i e h
    cases h2 : e == P.pointee t with
    | true => exact run_equal_pointer_nil w t z (by rw [h, eq_of_beq h2])
    | false => simp [h2] at hk
  · cases hk
theorem bin_ok {op : BinOp} {t yt : TypeId} {x y : Operand} {gc : Bool} {z : SV} {ob : Prop} (h : Knows bl s a) (hg : gc = true) (he : binR (kindOf P (.binOp op t x y yt)) op (rd s gc x) (rd s gc y) = .ok z ob) (ho : ob) :
    ∃ v, isV bl z v ∧ ∀ w, Ans P (.binOp op t x y yt) tt a w v := by
  generalize e1 : rd s gc x = r1 at he
  generalize e2 : rd s gc y = r2 at he
  generalize ek : kindOf P (.binOp op t x y yt) = kd at he
  unfold binR at he
  split at he
  · rename_i k p o1 k' q o2
    split at he
    · rename_i b hb
      obtain ⟨rfl, rfl⟩ := Res.ok.inj he
      obtain ⟨h1, h2, rfl⟩ := ho
      exact ⟨_, rfl, fun w => cmp_ok (rd_ok h e1 h1 hg) (rd_ok h e2 h2 hg) hb⟩
    · split at he
      · rename_i r hr
        obtain ⟨rfl, rfl⟩ := Res.ok.inj he
        obtain ⟨h1, h2, rfl, rfl, h3⟩ := ho
        exact ⟨_, rfl, fun w => ar_ok (rd_ok h e1 h1 hg) (rd_ok h e2 h2 hg) hr h3⟩
      · cases he
  · rename_i p o1 q o2
    split at he
    · obtain ⟨rfl, rfl⟩ := Res.ok.inj he
      have hx : a.eval x = .bool p := rd_ok h e1 ho.1 hg
      have hy : a.eval y = .bool q := rd_ok h e2 ho.2 hg
      refine ⟨_, rfl, fun w => ?_⟩
      unfold Ans execOp
      simp [hx, hy, eqGuard, binOp, eq_bool (op := .eql) hx hy ek]
    · obtain ⟨rfl, rfl⟩ := Res.ok.inj he
      have hx : a.eval x = .bool p := rd_ok h e1 ho.1 hg
      have hy : a.eval y = .bool q := rd_ok h e2 ho.2 hg
      refine ⟨_, rfl, fun w => ?_⟩
      unfold Ans execOp
      have ek' : kindOf P (.binOp .eql t x y yt) = .one := ek
      simp [hx, hy, eqGuard, binOp, eq_bool (op := .eql) hx hy ek']
      cases p <;> cases q <;> rfl
    · cases he
  · rename_i sv0 o1 o2
    have key : ∀ b, isNilP sv0 = some b → o1 → ∃ z, a.eval x = .pointer z ∧ z.isNone = b := by
      intro b hb h1
      have hx := rd_ok h e1 h1 hg
      unfold isNilP at hb
      split at hb
      · obtain ⟨B, _, hx⟩ := hx; exact ⟨_, hx, by simpa using hb⟩
      · exact ⟨_, hx, by simpa using hb⟩
      · exact ⟨_, hx, by simpa using hb⟩
      · cases hb
    split at he
    · rename_i b hb
      obtain ⟨rfl, rfl⟩ := Res.ok.inj he
      obtain ⟨z, hx, rfl⟩ := key _ hb ho.1
      have hy : a.eval y = .pointer none := rd_ok h e2 ho.2 hg
      refine ⟨_, rfl, fun w => ?_⟩
      unfold Ans execOp
      simp [hx, hy, eqGuard, binOp, eq_nil ek]
    · rename_i b hb
      obtain ⟨rfl, rfl⟩ := Res.ok.inj he
      obtain ⟨z, hx, rfl⟩ := key _ hb ho.1
      have hy : a.eval y = .pointer none := rd_ok h e2 ho.2 hg
      refine ⟨_, rfl, fun w => ?_⟩
      unfold Ans execOp
      have ek' : kindOf P (.binOp .eql t x y yt) = .off _ := ek
      simp [hx, hy, eqGuard, binOp, eq_nil ek']
    · cases he
  · cases he
theorem off_ok {t : TypeId} {x : Operand} {i n : Nat} {gc : Bool} {z : SV} {ob : Prop} (h : Knows bl s a) (hg : gc = true) (hk : kindOf P (.fieldAddr t x i) = .off n) (he : offR n (rd s gc x) = .ok z ob) (ho : ob) :
    ∃ v, isV bl z v ∧ ∀ w, Ans P (.fieldAddr t x i) tt a w v := by
  generalize e1 : rd s gc x = r1 at he
  have key : ∀ {b o : Nat}, a.eval x = .pointer (some ⟨b, o, none⟩) → ∀ w, Ans P (.fieldAddr t x i) tt a w (.pointer (some ⟨b, o + n, none⟩)) := by
    intro b o hx w
    simp only [kindOf] at hk
    split at hk
    · rename_i m hm
      obtain rfl : m = n := by simpa using hk
      unfold fieldOff at hm
      split at hm
      · rename_i fs hfs
        split at hm
        · rename_i f hf
          split at hm
          · rename_i inf hi
            cases h0 : inf.size == 0 with
            | true => simp [h0] at hm
            | false =>
              simp only [h0, cond_false, Option.some.injEq] at hm
              unfold fieldsOf at hfs
              split at hfs
              · rename_i fs' hu
                simp only [Option.some.injEq] at hfs
                subst hfs
                have h0' : ¬ inf.size = 0 := by simpa using h0
                unfold Ans execOp
                simp [hx, Instr.fieldAt, run_underlying hu, hf, Instr.sureAddr, fieldPlace, sizeOf, typeInfo, hi, h0', add_at, hm]
              · cases hfs
          · cases hm
        · cases hm
      · cases hm
    · cases hk
  unfold offR at he
  split at he
  · obtain ⟨rfl, rfl⟩ := Res.ok.inj he
    obtain ⟨B, hB, hx⟩ := rd_ok h e1 ho hg
    exact ⟨_, ⟨B, hB, rfl⟩, key hx⟩
  · obtain ⟨rfl, rfl⟩ := Res.ok.inj he
    exact ⟨_, rfl, key (rd_ok h e1 ho hg)⟩
  · cases he
theorem pick_ok {c x y : Operand} {gc : Bool} {z : SV} {ob : Prop} (h : Knows bl s a) (hg : gc = true) (he : pickR (rd s gc c) (rd s true x) (rd s true y) = .ok z ob) (ho : ob) :
    ∃ v, isV bl z v ∧ ∀ w, Ans P (.pick c x y) tt a w v := by
  generalize e0 : rd s gc c = r0 at he
  generalize e1 : rd s true x = r1 at he
  generalize e2 : rd s true y = r2 at he
  have key : ∀ {b : Bool}, a.eval c = .bool b → ∀ w, Ans P (.pick c x y) tt a w (bif b then a.eval x else a.eval y) := by
    intro b hb w
    unfold Ans execOp
    cases b <;> simp [hb, asBool]
  unfold pickR at he
  split at he
  · rename_i b o x' o1 y' o2
    split at he
    · obtain ⟨rfl, rfl⟩ := Res.ok.inj he
      have hc : a.eval c = .bool b := rd_ok h e0 ho.1 hg
      refine ⟨_, ?_, key hc⟩
      cases b with
      | true => exact rd_ok h e1 (ho.2.1 rfl) rfl
      | false => exact rd_ok h e2 (ho.2.2 rfl) rfl
    · obtain ⟨rfl, rfl⟩ := Res.ok.inj he
      have hc : a.eval c = .bool b := rd_ok h e0 ho.1 hg
      refine ⟨_, ?_, key hc⟩
      cases b with
      | true => exact rd_ok h e1 (ho.2.1 rfl) rfl
      | false => exact rd_ok h e2 (ho.2.2 rfl) rfl
    · cases he
  · cases he
theorem not_ok {x : Operand} {t : TypeId} {gc : Bool} {z : SV} {ob : Prop} (h : Knows bl s a) (hg : gc = true) (he : notR (rd s gc x) = .ok z ob) (ho : ob) :
    ∃ v, isV bl z v ∧ ∀ w, Ans P (.unOp .not t x) tt a w v := by
  generalize e1 : rd s gc x = r1 at he
  unfold notR at he
  split at he
  · obtain ⟨rfl, rfl⟩ := Res.ok.inj he
    have hx := rd_ok h e1 ho hg
    exact ⟨_, rfl, fun w => by unfold Ans execOp; simp [hx, isV] at *; simp [hx, Op.unary]⟩
  · cases he
theorem nil_ok {x : Operand} {gc : Bool} {z : SV} {ob : Prop} (h : Knows bl s a) (hg : gc = true) (he : nilR (rd s gc x) = .ok z ob) (ho : ob) :
    ∃ v, isV bl z v ∧ ∀ w, Ans P (.nilCheck x) tt a w v := by
  generalize e1 : rd s gc x = r1 at he
  unfold nilR at he
  split at he
  · obtain ⟨rfl, rfl⟩ := Res.ok.inj he
    obtain ⟨B, hB, hx⟩ := rd_ok h e1 ho hg
    exact ⟨_, ⟨B, hB, rfl⟩, fun w => by unfold Ans execOp; simp [hx]⟩
  · obtain ⟨rfl, rfl⟩ := Res.ok.inj he
    have hx : a.eval x = _ := rd_ok h e1 ho hg
    exact ⟨_, rfl, fun w => by unfold Ans execOp; simp [hx]⟩
  · cases he
theorem len_ok {c : Call} {x : Operand} {gc : Bool} {z : SV} {ob : Prop} (h : Knows bl s a) (hg : gc = true) (hc : c.callee = .builtin .len) (hx1 : c.args.toList = [x]) (he : lenR (kindOf P (.call c)) (rd s gc x) = .ok z ob) (ho : ob) :
    ∃ v, isV bl z v ∧ ∀ w, Ans P (.call c) tt a w v := by
  obtain ⟨ce, as, ts⟩ := c
  dsimp only at hc hx1
  subst hc
  obtain rfl : as = #[x] := Array.toList_inj.1 hx1
  obtain ⟨ts⟩ := ts
  generalize e1 : rd s gc x = r1 at he
  simp only [kindOf] at he
  match ts with
  | [t] =>
    simp only at he
    cases hu : P.underlying t with
    | none => simp [hu, lenR] at he
    | some ud =>
      rw [hu] at he
      cases ud <;> simp only [lenR] at he <;> try (cases he; done)
      · split at he
        · obtain ⟨rfl, rfl⟩ := Res.ok.inj he
          have hx : a.eval x = _ := rd_ok h e1 ho hg
          exact ⟨_, rfl, fun w => by unfold Ans execOp; simp [hx, resolve, invoke, builtin, Builtin.len_, run_underlying hu, goInt]⟩
        · cases he
      · split at he
        · obtain ⟨rfl, rfl⟩ := Res.ok.inj he
          have hx : a.eval x = _ := rd_ok h e1 ho hg
          exact ⟨_, rfl, fun w => by unfold Ans execOp; simp [hx, resolve, invoke, builtin, Builtin.len_, run_underlying hu, goInt]⟩
        · cases he
  | [] => simp [lenR] at he
  | t :: u :: r => simp [lenR] at he
theorem mm_ok {c : Call} {x y : Operand} {mx : Bool} {gc : Bool} {z : SV} {ob : Prop} (h : Knows bl s a) (hg : gc = true) (hc : c.callee = .builtin (bif mx then .max else .min)) (hx1 : c.args.toList = [x, y]) (he : mmR mx (rd s gc x) (rd s gc y) = .ok z ob) (ho : ob) :
    ∃ v, isV bl z v ∧ ∀ w, Ans P (.call c) tt a w v := by
  obtain ⟨ce, as, ts⟩ := c
  dsimp only at hc hx1
  subst hc
  obtain rfl : as = #[x, y] := Array.toList_inj.1 hx1
  generalize e1 : rd s gc x = r1 at he
  generalize e2 : rd s gc y = r2 at he
  unfold mmR at he
  split at he
  · rename_i k p o1 k' q o2
    obtain ⟨rfl, rfl⟩ := Res.ok.inj he
    have hx : a.eval x = _ := rd_ok h e1 ho.1 hg
    have hy : a.eval y = _ := rd_ok h e2 ho.2 hg
    refine ⟨_, rfl, fun w => ?_⟩
    cases mx with
    | true =>
      unfold Ans execOp
      simp only [cond_true, resolve, invoke, builtin, Sem.run_bind, Sem.run_pure, Result.andThen_ok, List.map_toArray, List.map_cons, List.map_nil, hx, hy, run_max_int2]
      rw [show (if q > p then q else p) = max p q from by rw [Int.max_def]; split <;> split <;> omega]
    | false =>
      unfold Ans execOp
      simp only [cond_false, resolve, invoke, builtin, Sem.run_bind, Sem.run_pure, Result.andThen_ok, List.map_toArray, List.map_cons, List.map_nil, hx, hy, run_min_int2]
      rw [show (if q < p then q else p) = min p q from by rw [Int.min_def]; split <;> split <;> omega]
  · cases he
theorem ext_ok {x : Operand} {i : Nat} {gc : Bool} {z : SV} {ob : Prop} (h : Knows bl s a) (hg : gc = true) (he : extR i (rd s gc x) = .ok z ob) (ho : ob) :
    ∃ v, isV bl z v ∧ ∀ w, Ans P (.extract x i) tt a w v := by
  generalize e1 : rd s gc x = r1 at he
  unfold extR at he
  split at he
  · split at he
    · obtain ⟨rfl, rfl⟩ := Res.ok.inj he
      obtain ⟨v1, v2, hx, h1, h2⟩ := rd_ok h e1 ho hg
      exact ⟨_, h1, fun w => by unfold Ans execOp; simp [hx, Instr.extract]⟩
    · obtain ⟨rfl, rfl⟩ := Res.ok.inj he
      obtain ⟨v1, v2, hx, h1, h2⟩ := rd_ok h e1 ho hg
      exact ⟨_, h2, fun w => by unfold Ans execOp; simp [hx, Instr.extract]⟩
    · cases he
  · split at he
    · obtain ⟨rfl, rfl⟩ := Res.ok.inj he
      obtain ⟨v1, v2, v3, hx, h1, h2, h3⟩ := rd_ok h e1 ho hg
      exact ⟨_, h1, fun w => by unfold Ans execOp; simp [hx, Instr.extract]⟩
    · obtain ⟨rfl, rfl⟩ := Res.ok.inj he
      obtain ⟨v1, v2, v3, hx, h1, h2, h3⟩ := rd_ok h e1 ho hg
      exact ⟨_, h2, fun w => by unfold Ans execOp; simp [hx, Instr.extract]⟩
    · obtain ⟨rfl, rfl⟩ := Res.ok.inj he
      obtain ⟨v1, v2, v3, hx, h1, h2, h3⟩ := rd_ok h e1 ho hg
      exact ⟨_, h3, fun w => by unfold Ans execOp; simp [hx, Instr.extract]⟩
    · cases he
  · cases he
theorem idx_ok {x y : Operand} {t el : TypeId} {sz : Nat} {gc : Bool} {z : SV} {ob : Prop} (h : Knows bl s a) (hg : gc = true) (hk : kindOf P (.indexAddr t x y) = .sl el sz) (he : idxR sz (rd s gc x) (rd s gc y) = .ok z ob) (ho : ob) :
    ∃ v, isV bl z v ∧ ∀ w, Ans P (.indexAddr t x y) tt a w v := by
  generalize e1 : rd s gc x = r1 at he
  generalize e2 : rd s gc y = r2 at he
  unfold idxR at he
  split at he
  · rename_i b o n c o1 k i o2
    obtain ⟨rfl, rfl⟩ := Res.ok.inj he
    have hx : a.eval x = _ := rd_ok h e1 ho.1 hg
    have hy : a.eval y = _ := rd_ok h e2 ho.2.1 hg
    refine ⟨_, rfl, fun w => ?_⟩
    simp only [kindOf] at hk
    split at hk
    · rename_i el' hel
      split at hk
      · rename_i sz' hsz
        obtain ⟨rfl, rfl⟩ := Kind.sl.inj hk
        unfold elOf at hel
        split at hel
        · rename_i el' hu
          simp only [Option.some.injEq] at hel
          subst hel
          obtain ⟨f, f1, f2⟩ := info_of hsz
          unfold Ans execOp
          simp [hx, hy, Instr.indexAt, asIntOf, run_underlying hu, sizeOf, typeInfo, f1, f2, ho.2.2.1, ho.2.2.2, add_at]
        · cases hel
      · cases hk
    · cases hk
  · cases he
theorem nth_get {l : List Value} {n : Nat} (h : inb l n) : l[n]? = some (nth l n) := by
  induction l generalizing n with
  | nil => exact h.elim
  | cons x l ih =>
    cases n with
    | zero => rfl
    | succ n => rw [List.getElem?_cons_succ]; exact ih h
theorem inb_lt {l : List Value} {n : Nat} (h : inb l n) : n < l.length := (List.getElem?_eq_some_iff.1 (nth_get h)).1
theorem fields_eq {t : TypeId} {fs : Array Field} (h : fieldsOf P t = some fs) : P.underlying t = some (.struct fs) := by
  unfold fieldsOf at h
  split at h
  · rename_i fs' hu
    simp only [Option.some.injEq] at h
    subst h; exact hu
  · cases h
theorem part_ok {t : TypeId} {x : Operand} {i off n : Nat} {one : Bool} {gc : Bool} {z : SV} {ob : Prop} (h : Knows bl s a) (hg : gc = true) (hk : kindOf P (.field t x i) = .part off n one) (he : partR off n one (rd s gc x) = .ok z ob) (ho : ob) :
    ∃ v, isV bl z v ∧ ∀ w, Ans P (.field t x i) tt a w v := by
  generalize e1 : rd s gc x = r1 at he
  unfold partR at he
  split at he
  · rename_i l o
    simp only [kindOf] at hk
    split at hk
    · rename_i fs hfs
      have hu := fields_eq hfs
      split at hk
      · rename_i f hf
        cases h1 : oneSize P f.type with
        | true =>
          simp only [h1, cond_true] at hk
          obtain ⟨rfl, rfl, rfl⟩ := Kind.part.inj hk
          simp only [cond_true] at he
          obtain ⟨rfl, rfl⟩ := Res.ok.inj he
          have hx : a.eval x = _ := rd_ok h e1 ho.1 hg
          have hc : l[f.offset]? = some (nth l f.offset) := nth_get ho.2
          refine ⟨_, rfl, fun w => ?_⟩
          unfold Ans execOp
          simp [hx, Instr.field, run_underlying hu, hf, asAgg, part, (run_isAgg_no h1 w).1, hc]
        | false =>
          simp only [h1, cond_false] at hk
          split at hk
          · rename_i m hm
            obtain ⟨rfl, rfl, rfl⟩ := Kind.part.inj hk
            simp only [cond_false] at he
            obtain ⟨rfl, rfl⟩ := Res.ok.inj he
            have hx : a.eval x = _ := rd_ok h e1 ho.1 hg
            refine ⟨_, rfl, fun w => ?_⟩
            obtain ⟨h2, inf, h3, h4⟩ := run_isAgg_yes hm w
            unfold Ans execOp
            simp [hx, Instr.field, run_underlying hu, hf, asAgg, part, h2, sizeOf, typeInfo, h3, h4, List.extract_eq_take_drop]
          · cases hk
      · cases hk
    · cases hk
  · cases he
theorem cells_ok {x : SV} {v : Value} {l : List Value} {o : Prop} (h : isV bl x v) (he : cellsOf bl x = some (l, o)) (ho : o) : v.cells = l.toArray ∧ l.all (·.oneCell') = true := by
  unfold cellsOf at he
  split at he
  · rename_i y
    obtain ⟨rfl, rfl⟩ := Prod.mk.inj (Option.some.inj he)
    obtain rfl : v = y := h
    refine ⟨?_, by simpa using ho⟩
    cases v <;> first | rfl | (simp [Value.oneCell'] at ho)
  · obtain ⟨rfl, rfl⟩ := Prod.mk.inj (Option.some.inj he)
    obtain rfl : v = _ := h
    exact ⟨rfl, ho⟩
  · rename_i k of
    obtain ⟨B, hB, rfl⟩ := h
    rw [hB] at he
    obtain ⟨rfl, rfl⟩ := Prod.mk.inj (Option.some.inj he)
    exact ⟨rfl, rfl⟩
  · cases he
theorem fold_set (off : Nat) : ∀ (l : List Value) (k : Nat) (cells : Array Value), off + k + l.length ≤ cells.size →
    ((l.zipIdx k).foldl (fun cs (p : Value × Nat) => cs.setIfInBounds (off + p.2) p.1) cells).toList = cells.toList.take (off + k) ++ l ++ cells.toList.drop (off + k + l.length)
  | [], k, cells, h => by simp
  | x :: l, k, cells, h => by
    simp only [List.length_cons] at h
    rw [List.zipIdx_cons, List.foldl_cons, fold_set off l (k + 1) _ (by simp only [Array.size_setIfInBounds]; omega)]
    simp only [Array.toList_setIfInBounds, List.length_cons]
    have hk : off + k < cells.toList.length := by simp only [Array.length_toList]; omega
    rw [List.set_eq_take_append_cons_drop, if_pos hk]
    have h1 : (List.take (off + k) cells.toList).length = off + k := by rw [List.length_take]; omega
    rw [show off + (k + 1) = (off + k) + 1 from by omega, List.take_append, h1, List.take_of_length_le (by omega), show off + k + 1 - (off + k) = 1 from by omega, List.take_succ_cons, List.take_zero,
      List.drop_append, h1, List.drop_of_length_le (by omega : (List.take (off + k) cells.toList).length ≤ off + k + 1 + l.length), show off + k + 1 + l.length - (off + k) = l.length + 1 from by omega, List.drop_succ_cons, List.drop_drop, List.nil_append]
    rw [show off + k + 1 + l.length = off + k + (l.length + 1) from by omega]
    simp
theorem lay_ok {gc : Bool} (h : Knows bl s a) (hg : gc = true) (L : List (Nat × Nat)) : ∀ (ps : List (Nat × Operand)) (z l : List Value) (ob : Prop), layR bl s gc L ps z = some (l, ob) → ob →
    fillC (fun i => L[i]?) z.toArray (ps.map fun p => (p.1, (a.eval p.2).cells)) = some l.toArray
  | [], z, l, ob, he, ho => by
    simp only [layR, Option.some.injEq, Prod.mk.injEq] at he
    obtain ⟨rfl, _⟩ := he
    rfl
  | (i, x) :: r, z, l, ob, he, ho => by
    unfold layR at he
    split at he
    · rename_i off n c o h1 h2
      split at he
      · rename_i z' ob' h3
        obtain ⟨rfl, rfl⟩ := Prod.mk.inj (Option.some.inj he)
        obtain ⟨o1, o2, hn, hle, hob⟩ := ho
        have hv := rd_ok (x := x) (gc := gc) h (Prod.ext rfl rfl) o1 hg
        have hc := (cells_ok hv h2 o2).1
        have ih := lay_ok h hg L r _ _ _ h3 hob
        simp only [List.map_cons, hc, fillC, h1]
        have hs : (c.toArray.zipIdx.foldl (fun cs (p : Value × Nat) => cs.setIfInBounds (off + p.2) p.1) z.toArray) = (z.take off ++ c ++ z.drop (off + n)).toArray := by
          apply Array.toList_inj.1
          rw [← Array.foldl_toList, Array.toList_zipIdx, fold_set off c.toArray.toList 0 _ (by simp; omega)]
          simp [hn]
        rw [if_neg (by simp [hn]; omega)]
        show fillC _ (c.toArray.zipIdx.foldl (fun cs (p : Value × Nat) => cs.setIfInBounds (off + p.2) p.1) z.toArray) _ = _
        rw [hs]
        exact ih
      · cases he
    · cases he
theorem build_ok {t : TypeId} {ps : Array (Nat × Operand)} {z l : List Value} {L : List (Nat × Nat)} {gc : Bool} {ob : Prop} (h : Knows bl s a) (hg : gc = true) (hk : kindOf P (.build t ps) = .lay z L) (he : layR bl s gc L ps.toList z = some (l, ob)) (ho : ob) :
    ∀ w, Ans P (.build t ps) tt a w (.agg l.toArray) := by
  intro w
  have hf := lay_ok h hg L _ _ _ _ he ho
  simp only [kindOf] at hk
  split at hk
  · rename_i z' L' hz hl
    obtain ⟨rfl, rfl⟩ := Kind.lay.inj hk
    refine rn_build _ rfl rfl ?_
    unfold layL at hl
    unfold zeroL at hz
    cases hz0 : zeroOf P t with
    | none => simp [hz0] at hz
    | some z0 =>
      simp only [hz0, Option.map_some, Option.some.injEq] at hz
      split at hl
      · rename_i fields hu
        unfold buildC
        simp only [hz0, hu, hl, Option.bind_some]
        rw [← hf, ← hz]
      · cases hl
  · cases hk
/-- What an operation that hangs on its operands alone answers. -/
theorem pv_ok {op : Op} {gc : Bool} {z : SV} {ob : Prop} (h : Knows bl s a) (hg : gc = true) (he : pv bl s gc op (kindOf P op) = .ok z ob) (ho : ob) : ∃ v, isV bl z v ∧ ∀ w, Ans P op tt a w v := by
  unfold pv at he
  split at he
  · obtain ⟨rfl, rfl⟩ := Res.ok.inj he
    exact ⟨_, rd_ok h (Prod.ext rfl rfl) ho hg, fun w => by unfold Ans execOp; simp⟩
  · obtain ⟨rfl, rfl⟩ := Res.ok.inj he
    exact ⟨_, rd_ok h (Prod.ext rfl rfl) ho hg, fun w => by unfold Ans execOp; simp⟩
  · exact pick_ok h hg he ho
  · exact bin_ok h hg he ho
  · exact not_ok h hg he ho
  · exact nil_ok h hg he ho
  · exact ext_ok h hg he ho
  · split at he
    · rename_i e; exact off_ok h hg e he ho
    · cases he
  · split at he
    · rename_i e; exact part_ok h hg e he ho
    · cases he
  · split at he
    · rename_i e; exact idx_ok h hg e he ho
    · cases he
  · split at he
    · rename_i z0 L e
      split at he
      · rename_i l ob' e2
        obtain ⟨rfl, rfl⟩ := Res.ok.inj he
        exact ⟨_, rfl, build_ok h hg e e2 ho⟩
      · cases he
    · cases he
  · split at he
    · rename_i e1 e2
      exact len_ok h hg e1 e2 he ho
    · rename_i e1 e2
      exact mm_ok (mx := true) h hg e1 e2 he ho
    · rename_i e1 e2
      exact mm_ok (mx := false) h hg e1 e2 he ho
    · cases he
  · cases he
theorem find_in {k : Nat} : ∀ {bl : List Blk} {B : Blk}, find bl k = some B → ∃ i : Nat, (pts bl)[i]? = some (pt B.b (.cells B.cs.toArray B.T))
  | [], _, h => by cases h
  | A :: r, B, h => by
    unfold find at h
    cases e : A.key == k with
    | true =>
      rw [e, cond_true] at h
      obtain rfl := Option.some.inj h
      exact ⟨0, rfl⟩
    | false =>
      rw [e, cond_false] at h
      obtain ⟨i, h1⟩ := find_in h
      exact ⟨i + 1, h1⟩
theorem rv_ok {E : Env} {bk : List Blk} {F : List HP} {op : Op} {gc : Bool} {z : SV} {ob : Prop} (h : Knows bl s a) (hg : gc = true) (he : rv bk bl s gc op (kindOf P op) = .ok z ob) (ho : ob) : ∃ v, isV bl z v ∧ ∀ w, Sat E w (pts bk ++ F) → Ans P op tt a w v := by
  unfold rv at he
  split at he
  · rename_i t x
    generalize e1 : rd s gc x = r1 at he
    split at he
    · rename_i j o ob'
      split at he
      · rename_i B B' hB hB'
        have hblk : ∀ w, Sat E w (pts bk ++ F) → w.heap[B.b]? = some (.cells B.cs.toArray B.T) := by
          intro w hs
          obtain ⟨i, hi⟩ := find_in hB
          exact hs.read i (by rw [List.getElem?_append_left (List.getElem?_eq_some_iff.1 hi).1]; exact hi)
        split at he
        · rename_i hk
          obtain ⟨rfl, rfl⟩ := Res.ok.inj he
          obtain ⟨B2, hB2, hx⟩ := rd_ok h e1 ho.1 hg
          obtain rfl : B2 = B' := by rw [hB2] at hB'; exact Option.some.inj hB'
          rw [← ho.2.1] at hx
          refine ⟨_, rfl, fun w hs => ?_⟩
          refine rn_blk1 rfl hx ?_ (hblk w hs) (by rw [List.getElem?_toArray]; exact nth_get ho.2.2)
          simp only [kindOf, ldK] at hk
          cases h1 : oneSize P t with
          | true => rfl
          | false => rw [h1, cond_false] at hk; split at hk <;> cases hk
        · rename_i n hk
          obtain ⟨rfl, rfl⟩ := Res.ok.inj he
          obtain ⟨B2, hB2, hx⟩ := rd_ok h e1 ho.1 hg
          obtain rfl : B2 = B' := by rw [hB2] at hB'; exact Option.some.inj hB'
          rw [← ho.2.1] at hx
          refine ⟨_, rfl, fun w hs => ?_⟩
          have ht : aggSize P t = some n := by
            simp only [kindOf, ldK] at hk
            cases h1 : oneSize P t with
            | true => rw [h1, cond_true] at hk; cases hk
            | false =>
              rw [h1, cond_false] at hk
              split at hk
              · rename_i m hm; rw [hm]; obtain rfl := Kind.agg.inj hk; rfl
              · cases hk
          have := run_loadVar_agg (P := P) (off := o) ht (hblk w hs) (by simpa using ho.2.2)
          unfold Ans execOp
          simp only [Instr.loadAt, hx, Instr.sureAddr, Sem.run_bind, Sem.run_pure, Result.andThen_ok, this]
          simp [List.extract_eq_take_drop]
        · cases he
      · cases he
    · cases he
  · cases he
end
end Go.Sx
