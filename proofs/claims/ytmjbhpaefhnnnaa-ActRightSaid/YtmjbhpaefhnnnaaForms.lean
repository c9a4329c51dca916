/- From kinds of cells to a plan, links, bytes. Conditions: none. -/
import Derived.Test.YtmjbhpaefhnnnaaFormP
import Derived.Test.YtmjbhpaefhnnnaaBlk
import Derived.Test.YtmjbhpaefhnnnaaActF
import Derived.Test.YtmjbhpaefhnnnaaProg
set_option linter.unusedVariables false
set_option linter.unusedSimpArgs false
namespace Go.Proofs.Ytmjbhpaefhnnnaa
open Go.RowKit Go.Bst
theorem links_form : ∀ {l : List (Array Value)}, (∀ m ∈ l, fitAll [.int .i64, .int .i64, .int .i64] m.toList) → ∃ ls : List Lkv, l = ls.map Lkv.cs ∧ ∀ x ∈ ls, i64B x.net ∧ i64B x.frm ∧ i64B x.dst
  | [], _ => ⟨[], rfl, by simp⟩
  | m :: l, h => by
    obtain ⟨ls, e1, e2⟩ := links_form (l := l) (fun x hx => h x (by simp [hx]))
    have hm := h m (by simp)
    obtain ⟨c⟩ := m
    change fitAll [.int .i64, .int .i64, .int .i64] c at hm
    obtain ⟨v0, l0, rfl, f0, k0⟩ := fits_cons hm
    obtain ⟨v1, l1, rfl, f1, k1⟩ := fits_cons k0
    obtain ⟨v2, l2, rfl, f2, k2⟩ := fits_cons k1
    obtain rfl := fits_nil k2
    obtain ⟨x0, rfl, g0⟩ := fits_i64_out f0
    obtain ⟨x1, rfl, g1⟩ := fits_i64_out f1
    obtain ⟨x2, rfl, g2⟩ := fits_i64_out f2
    refine ⟨⟨x0, x1, x2⟩ :: ls, by rw [e1]; rfl, fun x hx => ?_⟩
    rcases List.mem_cons.1 hx with rfl | hx
    · exact ⟨g0, g1, g2⟩
    · exact e2 x hx
def byteK : List SK := [.int .u8]
theorem byte_kinds : skinds Try.prog 9 5 = some byteK := by kernel_rfl
theorem bytes_rows : ∀ {l : List (Array Value)}, (∀ m ∈ l, fitAll [.int .u8] m.toList) → ∃ bs : List UInt8, flat l = ybs bs ∧ bs.length = l.length
  | [], _ => ⟨[], rfl, rfl⟩
  | m :: l, h => by
    obtain ⟨bs, e1, e2⟩ := bytes_rows (l := l) (fun x hx => h x (by simp [hx]))
    have hm := h m (by simp)
    obtain ⟨c⟩ := m
    change fitAll [.int .u8] c at hm
    obtain ⟨v0, l0, rfl, f0, k0⟩ := fits_cons hm
    obtain rfl := fits_nil k0
    obtain ⟨y, rfl⟩ := fits_Y f0
    exact ⟨y :: bs, by
      have : flat (⟨[Y y]⟩ :: l) = Y y :: flat l := by simp [flat]
      rw [this, e1]; rfl, by simp [e2]⟩
theorem bytes_rd {W : World} {v : Value} {l : List (Array Value)} (hr : Rd W 1 v l.length (flat l)) (hm : ∀ m ∈ l, fitAll [.int .u8] m.toList) : ∃ bs : List UInt8, Rd W 1 v bs.length (ybs bs) := by
  obtain ⟨bs, e1, e2⟩ := bytes_rows hm
  exact ⟨bs, by rw [← e1, e2]; exact hr⟩
end Go.Proofs.Ytmjbhpaefhnnnaa
