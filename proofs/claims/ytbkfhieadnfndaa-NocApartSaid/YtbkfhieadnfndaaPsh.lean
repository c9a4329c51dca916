/- Slices of structs in a row: one more put behind them; one read. Conditions: none. -/
import Derived.Test.YtbkfhieadnfndaaBlk
set_option linter.unusedVariables false
set_option linter.unusedSimpArgs false
namespace Go.Bst
open Go.RowKit
/-- A slice's own row of n elements: the forms of l. -/
abbrev RowN {α : Type} (el : TypeId) (sz : Nat) (v : Value) (n : Nat) (f : α → Array Value) (l : List α) : HP := Row el sz v n (flat (l.map f))
theorem flat_snoc {α : Type} (f : α → Array Value) (l : List α) (x : α) : flat (l.map f) ++ (f x).toList = flat ((l ++ [x]).map f) := by
  rw [List.map_append, flat_app, List.map_cons, List.map_nil, flat_one]
section
variable {P : Program} {K : Act → World → Prop} {g : Option (Nat × Bool)} {ops : Array Oper} {Q : Exit → Act → World → Prop} {rest : List Oper} {d : Option Tmp} {t el e2 tt : TypeId} {pos : String} {after : Array Edge} {a : Act} {E : Env} {w : World} {H : List HP} {s y : Operand} {b sz n bytes : Nat} {v z : Value} {α : Type} {f : α → Array Value} {l : List α} {x : α}
theorem wk_push (hw : Sat E w (pt b (.cells (f x) e2) :: H)) (k : Nat) (hk : H[k]? = some (RowN el sz v n f l)) (hs : a.eval s = v) (hx : a.eval y = .slice (some ⟨b, 0, none⟩) 1 1)
    (ht : P.underlying t = some (.slice el)) (hi : (P.info? el).map (fun i => (i.zero, i.size, i.bytes)) = some (some z, sz, bytes)) (hzs : z.cells.size = sz) (hsz : 0 < sz) (hm : (f x).size = sz) (h1 : (f x).all (·.oneCell') = true) (h63 : n ≤ 1000000) (hb : bytes ≤ 100000)
    (h : ∀ A c w', Sat E w' (H.set k (RowN el sz (.slice A (n + 1) c) (n + 1) f (l ++ [x]))) → K (a.put d (.slice A (n + 1) c)) w') :
    Oper.wp P { dst := d, op := .call { callee := .builtin .append, args := #[s, y], argTypes := #[t, t] }, type := tt, pos := pos, after := after, guard := g } a w K Q := by
  have hb2 : (n + 1) * bytes ≤ 1000001 * 100000 := Nat.mul_le_mul (by omega) hb
  refine wk_append (m := 1) (news := (f x).toList) hw (k + 1) (by simpa using hk) hs hx (Rd_blk hw 0 rfl (Nat.le_refl 1) (f x).toList (by rw [Array.length_toList, hm, Nat.one_mul]) (by rw [List.take_of_length_le (by rw [Array.length_toList, hm, Nat.one_mul]; exact Nat.le_refl _)])) ht hi hzs hsz (fun u hu => Array.all_eq_true_iff_forall_mem.1 h1 u (by simpa using hu)) (by simp only [maxLen]; omega) (by omega) ?_
  intro v' w' hw' _
  have hw2 : Sat E w' (H.set k (Row el sz v' (n + 1) (flat (l.map f) ++ (f x).toList))) := by
    have := hw'.tail (A := pt b (.cells (f x) e2))
    exact this
  rw [flat_snoc] at hw2
  have hkk : (H.set k (Row el sz v' (n + 1) (flat ((l ++ [x]).map f))))[k]? = some (Row el sz v' (n + 1) (flat ((l ++ [x]).map f))) := by
    rw [List.getElem?_set_self (List.getElem?_eq_some_iff.1 hk).1]
  obtain ⟨A, c, rfl, _, _⟩ := Row_val hw2 k hkk
  exact h A c w' hw2
theorem wl_push (hw : Sat E w (pt b (.cells (f x) e2) :: H)) (k : Nat) (hk : H[k]? = some (RowN el sz v n f l)) (hs : a.eval s = v) (hx : a.eval y = .slice (some ⟨b, 0, none⟩) 1 1)
    (ht : P.underlying t = some (.slice el)) (hi : (P.info? el).map (fun i => (i.zero, i.size, i.bytes)) = some (some z, sz, bytes)) (hzs : z.cells.size = sz) (hsz : 0 < sz) (hm : (f x).size = sz) (h1 : (f x).all (·.oneCell') = true) (h63 : n ≤ 1000000) (hb : bytes ≤ 100000)
    (h : ∀ A c w', Sat E w' (H.set k (RowN el sz (.slice A (n + 1) c) (n + 1) f (l ++ [x]))) → wpList P ops Q rest (a.put d (.slice A (n + 1) c)) w') :
    wpList P ops Q ({ dst := d, op := .call { callee := .builtin .append, args := #[s, y], argTypes := #[t, t] }, type := tt, pos := pos, after := after, guard := none } :: rest) a w :=
  wpList_plain rfl fun K hK => wk_push hw k hk hs hx ht hi hzs hsz hm h1 h63 hb fun A c w' hs' => hK _ _ (h A c w' hs')
end
section
variable {P : Program} {a : Act} {w : World} {fn : Func} {R : Ending → World → Prop}
theorem ret_tmp2 {p q : Tmp} (h : fn.results = #[.tmp p, .tmp q]) (x y : Value) (h1 : a.tmps.getD p undef = x) (h2 : a.tmps.getD q undef = y) (hd : a.defers = []) (hR : R (.returned (.tuple #[x, y])) w) : bodyPost P fn R .ret a w :=
  bodyPost_ret (v := .tuple #[x, y]) (by
    have h1' : a.tmps[p]?.getD undef = x := by simpa using h1
    have h2' : a.tmps[q]?.getD undef = y := by simpa using h2
    simp [results, h, h1', h2']) hd hR
theorem ret_tmp3 {p q r : Tmp} (h : fn.results = #[.tmp p, .tmp q, .tmp r]) (x y z : Value) (h1 : a.tmps.getD p undef = x) (h2 : a.tmps.getD q undef = y) (h3 : a.tmps.getD r undef = z) (hd : a.defers = []) (hR : R (.returned (.tuple #[x, y, z])) w) : bodyPost P fn R .ret a w :=
  bodyPost_ret (v := .tuple #[x, y, z]) (by
    have h1' : a.tmps[p]?.getD undef = x := by simpa using h1
    have h2' : a.tmps[q]?.getD undef = y := by simpa using h2
    have h3' : a.tmps[r]?.getD undef = z := by simpa using h3
    simp [results, h, h1', h2', h3']) hd hR
end
end Go.Bst
