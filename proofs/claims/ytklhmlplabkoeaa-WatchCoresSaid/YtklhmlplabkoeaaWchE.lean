/- Elements of slices that stand somewhere, read one by one. Conditions: none. -/
import Derived.Test.YtklhmlplabkoeaaClo
import Derived.Test.YtklhmlplabkoeaaProg
set_option linter.unusedVariables false
set_option linter.unusedSimpArgs false
namespace Go.Bst
open Go.RowKit
section
variable {P : Program} {w : World} {E : Env} {F : List HP} {o : Oper} {a : Act} {x ix : Operand} {t el ty : TypeId}
theorem cell_spot {ad : Addr} {u : Value} (h : w.cell? (ad.add 0) = some u) : ∃ b q, ad = ⟨b, q, none⟩ := by
  obtain ⟨b, q, s⟩ := ad
  cases s with
  | none => exact ⟨b, q, rfl⟩
  | some s =>
    exfalso
    unfold Addr.add at h
    simp [World.cell?] at h
    split at h <;> simp at h
theorem Rd.lit {sz n cap : Nat} {A : Option Addr} {xs : List Value} (r : Rd w sz (.slice A n cap) n xs) (h : 0 < xs.length) : ∃ b q, A = some ⟨b, q, none⟩ ∧ ∀ j u, xs[j]? = some u → w.cell? ⟨b, q + j, none⟩ = some u := by
  have hn : 0 < n := by
    obtain ⟨_, _, _, _, e, _⟩ := r
    rcases Nat.eq_zero_or_pos n with h0 | h0
    · rw [h0] at e; simp at e; rw [e] at h; simp at h
    · exact h0
  obtain ⟨ad, hA, hc⟩ := r.addr hn
  obtain ⟨b, q, rfl⟩ := cell_spot (hc 0 _ (List.getElem?_eq_getElem h))
  exact ⟨b, q, hA, fun j u hu => by have := hc j u hu; rw [add_at] at this; exact this⟩
theorem flat_pos {α : Type} {f : α → Array Value} {sz : Nat} (hf : ∀ x, (f x).size = sz) (hs : 0 < sz) {l : List α} {k : Nat} {y : α} (hk : l[k]? = some y) : 0 < (flat (l.map f)).length := by
  cases l with
  | nil => simp at hk
  | cons z l =>
    have := hf z
    simp [flat, List.flatMap_cons, this]
    omega
/-- The element at a place, in each world in which what stands behind is kept. -/
theorem rd_el {α : Type} {f : α → Array Value} {sz cap : Nat} {A : Option Addr} {l : List α} (hf : ∀ x, (f x).size = sz) (hs : 0 < sz) (hr : ∀ w', Sat E w' F → Rd w' sz (.slice A l.length cap) l.length (flat (l.map f))) (hw : Sat E w F) {k : Nat} {y : α} (hk : l[k]? = some y) :
    ∃ b q, A = some ⟨b, q, none⟩ ∧ ∀ w', Sat E w' F → ∀ r u, (f y).toList[r]? = some u → w'.cell? ⟨b, q + k * sz + r, none⟩ = some u := by
  have hp := flat_pos hf hs hk
  obtain ⟨b, q, hA, _⟩ := (hr w hw).lit hp
  refine ⟨b, q, hA, fun w' hw' r u hu => ?_⟩
  obtain ⟨b', q', hA', hc'⟩ := (hr w' hw').lit hp
  rw [hA] at hA'
  injection hA' with e
  injection e with e1 e2
  subst e1; subst e2
  have := hc' (k * sz + r) u (flat_at (sz := sz) (by intro m hm; obtain ⟨z, _, rfl⟩ := List.mem_map.1 hm; exact hf z) (by rw [List.getElem?_map, hk]; rfl) hu)
  rw [← Nat.add_assoc] at this
  exact this
theorem rn_rdIdx {b q n cap sz j : Nat} (ho : o.op = .indexAddr t x ix) (hx : a.eval x = .slice (some ⟨b, q, none⟩) n cap) (hix : a.eval ix = .int .i64 (j : Nat)) (hu : P.underlying t = some (.slice el)) (hs : (P.info? el).map (·.size) = some sz) (h1 : j < n) :
    (execOp a.eval o).run P w = .ok (.value (.pointer (some ⟨b, q + j * sz, none⟩))) w := by
  rw [rn_indexAddr ho hx hix hu hs rfl (by omega) (by omega), Int.toNat_natCast, add_at]
theorem rn_rdLd1 {b q : Nat} {v : Value} (ho : o.op = .load ty x) (hx : a.eval x = .pointer (some ⟨b, q, none⟩)) (ht : oneSize P ty = true) (hc : w.cell? ⟨b, q, none⟩ = some v) : (execOp a.eval o).run P w = .ok (.value v) w := rn_load_one ho hx ht hc
theorem rn_rdLdA {b q : Nat} {m : Array Value} (ho : o.op = .load ty x) (hx : a.eval x = .pointer (some ⟨b, q, none⟩)) (ht : aggSize P ty = some m.size) (hc : ∀ r u, m.toList[r]? = some u → w.cell? ⟨b, q + r, none⟩ = some u) : (execOp a.eval o).run P w = .ok (.value (.agg m)) w :=
  rn_load_agg ho hx ht (fun j u hu => by rw [add_at]; exact hc j u hu)
end
theorem row_w1 {α : Type} {E : Env} {w : World} {H : List HP} {f : α → Array Value} {x : α} {g sz : Nat} {e : TypeId} (s : Sat E w (pt g (.cells (f x) e) :: H)) (h : (f x).size = sz) : Sat E w (RowN e sz (.slice (some ⟨g, 0, none⟩) 1 1) 1 f [x] :: H) :=
  Row_mk (Nat.le_refl _) (by decide) (by rw [h, Nat.one_mul]) (by rw [Nat.one_mul, ← h, List.map_cons, List.map_nil, flat_one, List.take_of_length_le (by simp)]) s
theorem row_w2 {α : Type} {E : Env} {w : World} {H : List HP} {f : α → Array Value} {x y : α} {g sz : Nat} {e : TypeId} {cs : Array Value} (s : Sat E w (pt g (.cells cs e) :: H)) (hx : (f x).size = sz) (hy : (f y).size = sz) (hc : cs.toList = (f x).toList ++ (f y).toList) : Sat E w (RowN e sz (.slice (some ⟨g, 0, none⟩) 2 2) 2 f [x, y] :: H) :=
  have hl : cs.toList.length = 2 * sz := by rw [hc, List.length_append, Array.length_toList, Array.length_toList, hx, hy]; omega
  Row_mk (Nat.le_refl _) (by decide) (by rw [← hl, Array.length_toList]) (by rw [List.take_of_length_le (by omega), hc]; simp [flat]) s
end Go.Bst
