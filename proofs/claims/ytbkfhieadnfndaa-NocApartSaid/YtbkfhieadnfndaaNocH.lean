/- The net in memory: its struct, its map, its queues. Conditions: none. -/
import Derived.Test.YtbkfhieadnfndaaRing2
import Derived.Test.YtbkfhieadnfndaaRingF
import Derived.Test.YtbkfhieadnfndaaNocK
set_option linter.unusedVariables false
set_option linter.unusedSimpArgs false
namespace Go.Proofs.Ytbkfhieadnfndaa
open Go Go.RowKit Go.Bst
abbrev Lk : Type := Int × Int × Int
def thereB (n : Nat) (l : Lk) : Bool := decide (0 ≤ l.1 ∧ l.1 < 3 ∧ 0 ≤ l.2.1 ∧ l.2.1 < (n : Int) ∧ 0 ≤ l.2.2 ∧ l.2.2 < (n : Int))
/-- All links, in order. -/
def lks (n : Nat) : List Lk := (List.range 3).flatMap fun (a : Nat) => (List.range n).flatMap fun (f : Nat) => (List.range n).map fun (t : Nat) => ((a : Int), (f : Int), (t : Int))
theorem mem_lks {n : Nat} {l : Lk} : l ∈ lks n ↔ thereB n l = true := by
  obtain ⟨a, f, t⟩ := l
  unfold lks thereB
  rw [decide_eq_true_iff]
  simp only [List.mem_flatMap, List.mem_range, List.mem_map, Prod.mk.injEq]
  constructor
  · rintro ⟨x, hx, y, hy, z, hz, h1, h2, h3⟩
    omega
  · rintro ⟨h1, h2, h3, h4, h5, h6⟩
    exact ⟨a.toNat, by omega, f.toNat, by omega, t.toNat, by omega, by omega, by omega, by omega⟩
theorem nodup_lks (n : Nat) : (lks n).Nodup := by
  unfold lks
  rw [List.nodup_iff_pairwise_ne, List.pairwise_flatMap]
  refine ⟨fun a ha => ?_, ?_⟩
  · rw [List.pairwise_flatMap]
    refine ⟨fun f hf => ?_, ?_⟩
    · rw [List.pairwise_map]
      exact (List.nodup_range (n := n)).imp fun {x y} hne h => hne (by simp only [Prod.mk.injEq] at h; omega)
    · refine (List.nodup_range (n := n)).imp fun {x y} hne u hu v hv h => ?_
      obtain ⟨p, _, rfl⟩ := List.mem_map.1 hu
      obtain ⟨q, _, rfl⟩ := List.mem_map.1 hv
      simp only [Prod.mk.injEq] at h
      omega
  · refine (List.nodup_range (n := 3)).imp fun {x y} hne u hu v hv h => ?_
    simp only [List.mem_flatMap, List.mem_map] at hu hv
    obtain ⟨_, _, _, _, rfl⟩ := hu
    obtain ⟨_, _, _, _, rfl⟩ := hv
    simp only [Prod.mk.injEq] at h
    omega
def lkOf : Value → Option Lk
  | .agg cs => match cs.toList with
    | [.int .i64 a, .int .i64 b, .int .i64 c] => some (a, b, c)
    | _ => none
  | _ => none
theorem lkOf_lkV (l : Lk) : lkOf (lkV l) = some l := rfl
/-- What the map tells of a key. -/
def keyF (n : Nat) (adr : Lk → Nat) (v : Value) : Option Value := (lkOf v).bind fun l => bif thereB n l then some (.pointer (some ⟨adr l, 0, none⟩)) else none
theorem keyF_lk (n : Nat) (adr : Lk → Nat) (l : Lk) : keyF n adr (lkV l) = bif thereB n l then some (.pointer (some ⟨adr l, 0, none⟩)) else none := rfl
def Qs (adr : Lk → Nat) (room : Nat) (st : Lk → List (Array Value)) (ls : List Lk) : HP := star (ls.map fun l => Queue (adr l) room (st l))
def Net (b n room : Nat) (st : Lk → List (Array Value)) : HP := exH fun mb => exH fun adr => star [pt b (.cells #[.int .i64 n, .map (some mb)] 115), Mf mb IsLk (keyF n adr), Qs adr room st (lks n)]
section
variable {E : Env} {w : World} {F : List HP} {b n room : Nat} {st : Lk → List (Array Value)} {adr : Lk → Nat}
theorem Net_open (h : Sat E w (Net b n room st :: F)) : ∃ mb adr, Sat E w (pt b (.cells #[.int .i64 n, .map (some mb)] 115) :: Mf mb IsLk (keyF n adr) :: Qs adr room st (lks n) :: F) := by
  obtain ⟨mb, h⟩ := h.ex
  obtain ⟨adr, h⟩ := h.ex
  exact ⟨mb, adr, h.flat⟩
theorem Net_shut {mb : Nat} (h : Sat E w (pt b (.cells #[.int .i64 n, .map (some mb)] 115) :: Mf mb IsLk (keyF n adr) :: Qs adr room st (lks n) :: F)) : Sat E w (Net b n room st :: F) :=
  Sat.ex_mk mb (Sat.ex_mk adr (Sat.fold (K := [_, _, _]) h))
/-- One link's messages are others. -/
def setQ (st : Lk → List (Array Value)) (l : Lk) (q : List (Array Value)) : Lk → List (Array Value) := fun x => if x = l then q else st x
theorem setQ_same (st : Lk → List (Array Value)) (l : Lk) (q : List (Array Value)) : setQ st l q l = q := by simp [setQ]
theorem setQ_ne (st : Lk → List (Array Value)) {l x : Lk} (q : List (Array Value)) (h : x ≠ l) : setQ st l q x = st x := by simp [setQ, h]
/-- One queue taken out of all; put back with other messages in it. -/
theorem Qs_take {ls : List Lk} {l : Lk} (hn : ls.Nodup) (hl : l ∈ ls) (h : Sat E w (Qs adr room st ls :: F)) :
    Sat E w (Queue (adr l) room (st l) :: Qs adr room st (ls.erase l) :: F) := by
  have h1 := Sat.flat h
  obtain ⟨a, c, rfl, hna⟩ := List.append_of_mem hl |>.elim fun a h => h.elim fun c h => (⟨a, c, h, by rw [h] at hn; exact fun hm => (List.nodup_append.1 hn).2.2 l hm l List.mem_cons_self rfl⟩ : ∃ a c, ls = a ++ l :: c ∧ l ∉ a)
  have e : (a ++ l :: c).erase l = a ++ c := by rw [List.erase_append_right _ hna, List.erase_cons_head]
  rw [e]
  have h2 : Sat E w (Queue (adr l) room (st l) :: ((a ++ c).map (fun l => Queue (adr l) room (st l)) ++ F)) := h1.perm (by
    rw [List.map_append, List.map_cons, List.map_append]
    simp only [List.append_assoc, List.cons_append]
    exact List.perm_middle)
  have h3 : Sat E w ((a ++ c).map (fun l => Queue (adr l) room (st l)) ++ (Queue (adr l) room (st l) :: F)) := h2.perm List.perm_middle.symm
  have h4 := Sat.fold h3
  exact h4.perm (List.Perm.swap _ _ _)
theorem Qs_put {ls : List Lk} {l : Lk} {q : List (Array Value)} (hn : ls.Nodup) (hl : l ∈ ls) (h : Sat E w (Queue (adr l) room q :: Qs adr room st (ls.erase l) :: F)) :
    Sat E w (Qs adr room (setQ st l q) ls :: F) := by
  have h1 := Sat.flat (h.perm (List.Perm.swap _ _ _))
  obtain ⟨a, c, rfl, hna⟩ := List.append_of_mem hl |>.elim fun a h => h.elim fun c h => (⟨a, c, h, by rw [h] at hn; exact fun hm => (List.nodup_append.1 hn).2.2 l hm l List.mem_cons_self rfl⟩ : ∃ a c, ls = a ++ l :: c ∧ l ∉ a)
  have hnc : l ∉ c := (List.nodup_cons.1 (List.nodup_append.1 hn).2.1).1
  have e : (a ++ l :: c).erase l = a ++ c := by rw [List.erase_append_right _ hna, List.erase_cons_head]
  rw [e] at h1
  refine Sat.fold (h1.perm ?_)
  have e1 : (a.map fun l => Queue (adr l) room (st l)) = a.map fun x => Queue (adr x) room (setQ st l q x) := List.map_congr_left fun x hx => by rw [setQ_ne]; exact fun e => hna (e ▸ hx)
  have e2 : (c.map fun l => Queue (adr l) room (st l)) = c.map fun x => Queue (adr x) room (setQ st l q x) := List.map_congr_left fun x hx => by rw [setQ_ne]; exact fun e => hnc (e ▸ hx)
  rw [List.map_append, List.map_append, List.map_cons, setQ_same, e1, e2]
  simp only [List.append_assoc, List.cons_append]
  refine List.Perm.append_left _ ?_
  exact List.perm_middle
end
/-- A message. -/
structure Ms where
  k : Int
  f : Int
  t : Int
  ln : Int
  a : Bool
  b : Bool
  d : List Value
def Ms.cs (m : Ms) : List Value := .int .i64 m.k :: .int .i64 m.f :: .int .i64 m.t :: .int .i64 m.ln :: .bool m.a :: .bool m.b :: m.d
def Ms.v (m : Ms) : Array Value := m.cs.toArray
def Ms.Ok (m : Ms) : Prop := Msg m.v
theorem Ms.len {m : Ms} (h : m.Ok) : m.d.length = 32 := by
  have := Msg.size h
  simpa [Ms.v, Ms.cs] using this
theorem Ms.lk {m : Ms} (h : m.Ok) (net : Int) (hn : SK.fits (.int .i64) (.int .i64 net)) : fit3 (net, m.f, m.t) := by
  have h1 : fitAll msgK m.cs := h
  simp only [msgK, Ms.cs, List.cons_append, fitAll] at h1
  exact ⟨hn, h1.2.1, h1.2.2.1, trivial⟩
end Go.Proofs.Ytbkfhieadnfndaa
