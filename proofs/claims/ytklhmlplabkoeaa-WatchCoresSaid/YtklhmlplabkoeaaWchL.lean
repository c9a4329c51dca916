/- What must hold of cores and banks: the faults, in plain Lean. Conditions: none. -/
import Derived.Test.YtklhmlplabkoeaaWchF
import Derived.Test.YtklhmlplabkoeaaReg
set_option linter.unusedVariables false
set_option linter.unusedSimpArgs false
namespace Go.Proofs.Ytklhmlplabkoeaa
open Go.RowKit Go.Bst
/-! ### a crowd: things by where they are -/
abbrev Trip := Int × Int × Bool
/-- As the program counts: what was seen ahead, and what is to come. -/
def crowdF (most : Int) : List (Int × Int) → List Trip → Bool
  | _, [] => true
  | s, (a, k, ok) :: r => if ok = true ∧ ((s.countP (fun q => q.1 == a) : Nat) : Int) + 1 ≤ most ∧ (a, k) ∉ s then crowdF most ((a, k) :: s) r else false
def cntT (a : Int) (T : List Trip) : Nat := T.countP (fun t => t.1 == a)
/-- What must hold of a crowd. -/
structure Fine (most : Int) (s : List (Int × Int)) (T : List Trip) : Prop where
  ok : ∀ t ∈ T, t.2.2 = true
  nd : (T.map fun t => (t.1, t.2.1)).Nodup
  new : ∀ t ∈ T, (t.1, t.2.1) ∉ s
  few : ∀ t ∈ T, ((s.countP (fun q => q.1 == t.1) : Nat) : Int) + (cntT t.1 T : Nat) ≤ most
theorem cntT_cons (a : Int) (t : Trip) (T : List Trip) : cntT a (t :: T) = cntT a T + if t.1 = a then 1 else 0 := by
  unfold cntT
  rw [List.countP_cons]
  congr 1
  simp
theorem cntS_cons (a : Int) (t : Int × Int) (s : List (Int × Int)) : (t :: s).countP (fun q => q.1 == a) = s.countP (fun q => q.1 == a) + if t.1 = a then 1 else 0 := by
  rw [List.countP_cons]
  congr 1
  simp
theorem crowd_fine {most : Int} : ∀ {T : List Trip} {s : List (Int × Int)}, crowdF most s T = true ↔ Fine most s T
  | [], s => by
    constructor
    · intro _; exact ⟨by simp, by simp, by simp, by simp⟩
    · intro _; rfl
  | (a, k, ok) :: T, s => by
    unfold crowdF
    constructor
    · intro h
      split at h
      · rename_i hc
        obtain ⟨c1, c2, c3⟩ := hc
        have F := crowd_fine.1 h
        refine ⟨?_, ?_, ?_, ?_⟩
        · intro t ht
          rcases List.mem_cons.1 ht with rfl | ht
          · exact c1
          · exact F.ok t ht
        · rw [List.map_cons, List.nodup_cons]
          refine ⟨fun hm => ?_, F.nd⟩
          obtain ⟨u, hu, e⟩ := List.mem_map.1 hm
          exact F.new u hu (by rw [e]; exact List.mem_cons_self)
        · intro t ht
          rcases List.mem_cons.1 ht with rfl | ht
          · exact c3
          · exact fun hm => F.new t ht (List.mem_cons_of_mem _ hm)
        · have key : ∀ u ∈ T, u.1 = a → ((s.countP (fun q => q.1 == a) : Nat) : Int) + (cntT a T + 1 : Nat) ≤ most := by
            intro u hu e
            have := F.few u hu
            rw [cntS_cons, e] at this
            simp only [if_true] at this
            omega
          intro t ht
          rw [cntT_cons]
          rcases List.mem_cons.1 ht with rfl | ht
          · simp only [if_true]
            by_cases h0 : cntT a T = 0
            · rw [h0]; omega
            · unfold cntT at h0
              obtain ⟨u, hu, e⟩ := List.countP_pos_iff.1 (Nat.pos_of_ne_zero h0)
              exact key u hu (by simpa using e)
          · have := F.few t ht
            rw [cntS_cons] at this
            simp only at this ⊢
            split <;> split at this <;> omega
      · exact absurd h (by simp)
    · intro F
      have h1 := F.ok _ List.mem_cons_self
      have h2 := F.few _ List.mem_cons_self
      have h3 := F.new _ List.mem_cons_self
      have h4 := F.nd
      rw [List.map_cons, List.nodup_cons] at h4
      rw [cntT_cons] at h2
      simp only [if_true] at h1 h2 h3
      rw [if_pos ⟨h1, by omega, h3⟩]
      refine crowd_fine.2 ⟨fun t ht => F.ok t (List.mem_cons_of_mem _ ht), h4.2, fun t ht hm => ?_, fun t ht => ?_⟩
      · rcases List.mem_cons.1 hm with e | hm
        · exact h4.1 (List.mem_map.2 ⟨t, ht, e⟩)
        · exact F.new t (List.mem_cons_of_mem _ ht) hm
      · have := F.few t (List.mem_cons_of_mem _ ht)
        rw [cntT_cons] at this
        rw [cntS_cons]
        simp only at this ⊢
        split <;> split at this <;> omega
/-- As the document looks: each against all, and against those ahead. -/
def badR (most : Int) (all : List Trip) : List Trip → List Trip → Bool
  | _, [] => false
  | pre, t :: r => (pre.any (fun u => u.2.1 == t.2.1) || decide (most < (cntT t.1 all : Nat)) || !t.2.2) || badR most all (pre ++ [t]) r
theorem badR_fine {most : Int} {all : List Trip} {g : Int → Int} (hg : ∀ t ∈ all, t.1 = g t.2.1) : ∀ {r pre : List Trip}, pre ++ r = all → (badR most all pre r = false ↔ (∀ t ∈ r, t.2.2 = true) ∧ ((r.map fun t => (t.1, t.2.1)).Nodup) ∧ (∀ t ∈ r, ∀ u ∈ pre, (u.1, u.2.1) ≠ (t.1, t.2.1)) ∧ ∀ t ∈ r, ((cntT t.1 all : Nat) : Int) ≤ most)
  | [], pre, _ => by simp [badR]
  | t :: r, pre, e => by
    have ih := badR_fine (most := most) hg (r := r) (pre := pre ++ [t]) (by rw [List.append_assoc]; exact e)
    have ht : t ∈ all := by rw [← e]; simp
    have hpre : ∀ u ∈ pre, u ∈ all := fun u hu => by rw [← e]; exact List.mem_append_left _ hu
    have hr : ∀ u ∈ r, u ∈ all := fun u hu => by rw [← e]; exact List.mem_append_right _ (List.mem_cons_of_mem _ hu)
    unfold badR
    rw [Bool.or_eq_false_iff, ih, Bool.or_eq_false_iff, Bool.or_eq_false_iff]
    rw [List.any_eq_false, decide_eq_false_iff_not, Bool.not_eq_false']
    constructor
    · rintro ⟨⟨⟨h1, h2⟩, h3⟩, h4, h5, h6, h7⟩
      refine ⟨?_, ?_, ?_, ?_⟩
      · intro u hu
        rcases List.mem_cons.1 hu with rfl | hu
        · exact h3
        · exact h4 u hu
      · rw [List.map_cons, List.nodup_cons]
        refine ⟨fun hm => ?_, h5⟩
        obtain ⟨u, hu, e2⟩ := List.mem_map.1 hm
        exact h6 u hu t (by simp) e2.symm
      · intro u hu v hv
        rcases List.mem_cons.1 hu with rfl | hu
        · intro e2
          injection e2 with e3 e4
          exact h1 v hv (by simp [e4])
        · exact h6 u hu v (List.mem_append_left _ hv)
      · intro u hu
        rcases List.mem_cons.1 hu with rfl | hu
        · omega
        · exact h7 u hu
    · rintro ⟨h1, h2, h3, h4⟩
      rw [List.map_cons, List.nodup_cons] at h2
      refine ⟨⟨⟨fun v hv => ?_, ?_⟩, h1 t List.mem_cons_self⟩, fun u hu => h1 u (List.mem_cons_of_mem _ hu), h2.2, fun u hu v hv => ?_, fun u hu => h4 u (List.mem_cons_of_mem _ hu)⟩
      · intro e2
        have e2 : v.2.1 = t.2.1 := by simpa using e2
        have := h3 t List.mem_cons_self v hv
        rw [hg t ht, hg v (hpre v hv), e2] at this
        exact this rfl
      · have := h4 t List.mem_cons_self; omega
      · rcases List.mem_append.1 hv with hv | hv
        · exact h3 u (List.mem_cons_of_mem _ hu) v hv
        · obtain rfl : v = t := by simpa using hv
          intro e2
          exact h2.1 (List.mem_map.2 ⟨u, hu, e2.symm⟩)
theorem bad_crowd {most : Int} {all : List Trip} {g : Int → Int} (hg : ∀ t ∈ all, t.1 = g t.2.1) : badR most all [] all = !crowdF most [] all := by
  have h1 := badR_fine (most := most) hg (r := all) (pre := []) rfl
  have h2 := crowd_fine (most := most) (T := all) (s := [])
  cases hb : badR most all [] all with
  | false =>
    obtain ⟨a1, a2, _, a4⟩ := h1.1 hb
    rw [h2.2 ⟨a1, a2, by simp, fun t ht => by have := a4 t ht; simpa using this⟩]; rfl
  | true =>
    cases hc : crowdF most [] all with
    | false => rfl
    | true =>
      have F := h2.1 hc
      rw [h1.2 ⟨F.ok, F.nd, by simp, fun t ht => by have := F.few t ht; simpa using this⟩] at hb
      cases hb
def nearP (p : Pl) (x : Nev) : Trip := (Int.tmod x.line p.ns, x.line, lineB p x.line)
def farP (p : Pl) (i : Int) (x : Fav) : Trip := (Int.tmod (Int.tdiv x.line p.banks) p.fs, x.line, lineB p x.line && decide (Int.tmod x.line p.banks = i))
/-! ### what is known -/
def andI (a b : Int) : Int := IntKind.i64.wrap ((BitVec.ofInt 64 a &&& BitVec.ofInt 64 b).toNat)
def hasF (x : Fav) (c : Int) : Bool := decide (x.owner = c) || decide (andI (x.sharers.fdiv (2 ^ (min c.toNat 64))) 1 = 1)
def knowsB (l n : Int) (ls : List Fav) : Bool := ls.any fun x => decide (x.line = l) && hasF x n
/-- Does the line's bank know that a core has it? -/
def knownF (p : Pl) (bs : List Bav) (l n : Int) : Bool := lineB p l && match bs[(Int.tmod l p.banks).toNat]? with
  | some b => knowsB l n b.ls
  | none => false
/-! ### two cores' lines -/
noncomputable def sharedB (x y : Nev) : Bool := decide (x.state = 1) && decide (y.state = 1)
noncomputable def unlikeB (x y : Nev) : Bool := !same x.data.c y.data.c
noncomputable def pairA (a b : List Nev) : Bool := a.any fun x => b.any fun y => decide (x.line = y.line) && !sharedB x y
noncomputable def pairU (a b : List Nev) : Bool := a.any fun x => b.any fun y => decide (x.line = y.line) && (sharedB x y && unlikeB x y)
theorem unlike_comm (x y : Nev) : unlikeB x y = unlikeB y x := by
  unfold unlikeB
  by_cases h : x.data.c = y.data.c
  · rw [h]
  · rw [same_not h, same_not (fun e => h e.symm)]
theorem shared_comm (x y : Nev) : sharedB x y = sharedB y x := Bool.and_comm _ _
theorem any_comm {α β : Type} (f : α → β → Bool) (a : List α) (b : List β) : (a.any fun x => b.any fun y => f x y) = (b.any fun y => a.any fun x => f x y) := by
  rw [Bool.eq_iff_iff]
  simp only [List.any_eq_true]
  constructor
  · rintro ⟨x, hx, y, hy, h⟩; exact ⟨y, hy, x, hx, h⟩
  · rintro ⟨y, hy, x, hx, h⟩; exact ⟨x, hx, y, hy, h⟩
theorem pairA_comm (a b : List Nev) : pairA a b = pairA b a := by
  unfold pairA
  rw [any_comm]
  congr 1; funext y; congr 1; funext x
  rw [shared_comm, show decide (x.line = y.line) = decide (y.line = x.line) from by rw [Bool.eq_iff_iff]; simp [eq_comm]]
theorem pairU_comm (a b : List Nev) : pairU a b = pairU b a := by
  unfold pairU
  rw [any_comm]
  congr 1; funext y; congr 1; funext x
  rw [shared_comm, unlike_comm, show decide (x.line = y.line) = decide (y.line = x.line) from by rw [Bool.eq_iff_iff]; simp [eq_comm]]
end Go.Proofs.Ytklhmlplabkoeaa
