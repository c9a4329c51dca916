/- Heaps in part, separation and the walk's laws over them: the ground that this claim's walks stand on. Conditions: none. -/
import Derived.WalkKit
import Derived.WalkSpells
import Derived.WalkLawsBesides
import Derived.Conc.LoneSelect
import Derived.Deep.QuietTactic
import Derived.BigQuiet
import Derived.Lib.Hide
namespace Go.Bst
open Go.RowKit

/-- A fact kept from the walk. -/
def Kp (p : Prop) : Prop := p
theorem Kp.mk {p : Prop} (h : p) : Kp p := h
theorem Kp.out {p : Prop} (h : Kp p) : p := h
attribute [irreducible] Kp

/-! ### heaps in part -/
def PH : Type := Nat → Option Obj
def PH.dj (h k : PH) : Prop := ∀ b, h b = none ∨ k b = none
def PH.un (h k : PH) : PH := fun b => (h b).or (k b)
def PH.sub (h : PH) (w : World) : Prop := ∀ b o, h b = some o → w.heap[b]? = some o
def PH.one (b : Nat) (o : Obj) : PH := fun b' => if b' = b then some o else none
abbrev HP : Type := PH → Prop

theorem PH.dj.symm {h k : PH} (d : PH.dj h k) : PH.dj k h := fun b => (d b).symm

def star : List HP → HP
  | [] => fun _ => True
  | A :: H => fun h => ∃ h1 h2, PH.dj h1 h2 ∧ A h1 ∧ star H h2 ∧ h = PH.un h1 h2

theorem PH.un_comm {h k : PH} (d : PH.dj h k) : PH.un h k = PH.un k h := by
  funext b
  unfold PH.un
  rcases d b with e | e <;> rw [e] <;> simp
theorem PH.un_assoc (h k l : PH) : PH.un (PH.un h k) l = PH.un h (PH.un k l) := by
  funext b
  unfold PH.un
  cases h b <;> simp
theorem PH.dj_un {h k l : PH} : PH.dj h (PH.un k l) ↔ PH.dj h k ∧ PH.dj h l := by
  unfold PH.dj PH.un
  constructor
  · intro d
    refine ⟨fun b => ?_, fun b => ?_⟩
    · rcases d b with e | e
      · exact .inl e
      · simp only [Option.or_eq_none_iff] at e; exact .inr e.1
    · rcases d b with e | e
      · exact .inl e
      · simp only [Option.or_eq_none_iff] at e; exact .inr e.2
  · rintro ⟨d1, d2⟩ b
    rcases d1 b with e | e
    · exact .inl e
    · rcases d2 b with e2 | e2
      · exact .inl e2
      · right; simp [e, e2]
theorem PH.un_dj {h k l : PH} : PH.dj (PH.un k l) h ↔ PH.dj k h ∧ PH.dj l h :=
  ⟨fun d => ⟨(PH.dj_un.1 d.symm).1.symm, (PH.dj_un.1 d.symm).2.symm⟩, fun ⟨a, b⟩ => (PH.dj_un.2 ⟨a.symm, b.symm⟩).symm⟩

theorem star_swap {A B : HP} {H : List HP} {h : PH} (s : star (A :: B :: H) h) : star (B :: A :: H) h := by
  obtain ⟨h1, h2, d, ha, ⟨h3, h4, d', hb, hs, rfl⟩, rfl⟩ := s
  obtain ⟨d13, d14⟩ := PH.dj_un.1 d
  refine ⟨h3, PH.un h1 h4, PH.dj_un.2 ⟨d13.symm, d'⟩, hb, ⟨h1, h4, d14, ha, hs, rfl⟩, ?_⟩
  rw [← PH.un_assoc, PH.un_comm d13, PH.un_assoc]
theorem star_cons {A : HP} {H H' : List HP} (i : ∀ h, star H h → star H' h) {h : PH} (s : star (A :: H) h) : star (A :: H') h := by
  obtain ⟨h1, h2, d, ha, hs, rfl⟩ := s
  exact ⟨h1, h2, d, ha, i _ hs, rfl⟩
theorem star_perm {H H' : List HP} (p : H.Perm H') : ∀ h, star H h → star H' h := by
  induction p with
  | nil => exact fun _ h => h
  | cons x _ ih => exact fun h s => star_cons ih s
  | swap x y l => exact fun h s => star_swap s
  | trans _ _ i1 i2 => exact fun h s => i2 h (i1 h s)
theorem star_more {h1 : PH} : ∀ {K : List HP} {h2 : PH}, PH.dj h1 h2 → star K h2 → star K (PH.un h1 h2)
  | [], _, _, _ => trivial
  | A :: K, h2, d, s2 => by
    obtain ⟨k1, k2, d', ha, hs, rfl⟩ := s2
    obtain ⟨e1, e2⟩ := PH.dj_un.1 d
    refine ⟨k1, PH.un h1 k2, PH.dj_un.2 ⟨e1.symm, d'⟩, ha, star_more e2 hs, ?_⟩
    rw [← PH.un_assoc, PH.un_comm e1, PH.un_assoc]
theorem star_app {K : List HP} {h2 : PH} (s2 : star K h2) : ∀ {H : List HP} {h1 : PH}, PH.dj h1 h2 → star H h1 → star (H ++ K) (PH.un h1 h2)
  | [], _, d, _ => star_more d s2
  | A :: H, h1, d, s1 => by
    obtain ⟨k1, k2, d', ha, hs, rfl⟩ := s1
    obtain ⟨e1, e2⟩ := PH.un_dj.1 d
    exact ⟨k1, PH.un k2 h2, PH.dj_un.2 ⟨d', e1⟩, ha, star_app s2 e2 hs, PH.un_assoc _ _ _⟩
theorem star_split {H K : List HP} : ∀ {h : PH}, star (H ++ K) h → ∃ h1 h2, PH.dj h1 h2 ∧ star H h1 ∧ star K h2 ∧ h = PH.un h1 h2 := by
  induction H with
  | nil => intro h s; exact ⟨fun _ => none, h, fun _ => .inl rfl, trivial, s, by funext b; simp [PH.un]⟩
  | cons A H ih =>
    rintro h ⟨k1, k2, d, ha, hs, rfl⟩
    obtain ⟨l1, l2, d', s1, s2, rfl⟩ := ih hs
    obtain ⟨e1, e2⟩ := PH.dj_un.1 d
    exact ⟨PH.un k1 l1, l2, PH.un_dj.2 ⟨e2, d'⟩, ⟨k1, l1, e1, ha, s1, rfl⟩, s2, (PH.un_assoc _ _ _).symm⟩

/-! ### what a world holds -/
/-- The streams as they were when the law began. -/
abbrev Env : Type := Os × Array (Nat × ByteArray) × (Nat → Question → Nat)
def World.env (w : World) : Env := (w.os, w.output, w.tape)
def Sat (E : Env) (w : World) (H : List HP) : Prop := World.env w = E ∧ ∃ h, star H h ∧ h.sub w

def pt (b : Nat) (o : Obj) : HP := fun h => h = PH.one b o
def exH {α : Type} (A : α → HP) : HP := fun h => ∃ x, A x h
def andH (p : Prop) (A : HP) : HP := fun h => p ∧ A h
def Old (W : World) : HP := fun h => h = fun b => W.heap[b]?

section
variable {E : Env} {w w' : World} {H H' : List HP} {A B : HP}

theorem Sat.perm (s : Sat E w H) (p : H.Perm H') : Sat E w H' := ⟨s.1, let ⟨h, a, b⟩ := s.2; ⟨h, star_perm p h a, b⟩⟩
theorem perm_front : ∀ {H : List HP} (k : Nat) {A : HP}, H[k]? = some A → H.Perm (A :: H.eraseIdx k)
  | [], _, _, h => by simp at h
  | B :: H, 0, A, h => by simp at h; subst h; exact List.Perm.refl _
  | B :: H, k + 1, A, h => by
    have := perm_front (H := H) k (A := A) (by simpa using h)
    exact (List.Perm.cons B this).trans (List.Perm.swap _ _ _)
theorem perm_set : ∀ {H : List HP} (k : Nat) {A B : HP}, H[k]? = some A → (B :: H.eraseIdx k).Perm (H.set k B)
  | [], _, _, _, h => by simp at h
  | C :: H, 0, A, B, h => List.Perm.refl _
  | C :: H, k + 1, A, B, h => by
    have := perm_set (H := H) k (A := A) (B := B) (by simpa using h)
    exact (List.Perm.swap _ _ _).trans (List.Perm.cons C this)
theorem Sat.front (s : Sat E w H) (k : Nat) (h : H[k]? = some A) : Sat E w (A :: H.eraseIdx k) := s.perm (perm_front k h)
theorem Sat.upd (k : Nat) (h : H[k]? = some A) (s : Sat E w H) (st : ∀ R, Sat E w (A :: R) → Sat E w' (B :: R)) : Sat E w' (H.set k B) :=
  (st _ (s.front k h)).perm (perm_set k h)
theorem Sat.tail (s : Sat E w (A :: H)) : Sat E w H := ⟨s.1, by
  obtain ⟨h, ⟨h1, h2, d, _, hs, rfl⟩, b⟩ := s.2
  refine ⟨h2, hs, fun c o ho => b c o ?_⟩
  rcases d c with e | e
  · simp [PH.un, e, ho]
  · rw [e] at ho; cases ho⟩
theorem Sat.del (s : Sat E w H) (k : Nat) (h : H[k]? = some A) : Sat E w (H.eraseIdx k) := Sat.tail (s.front k h)
theorem Sat.imp (i : ∀ h, A h → B h) (s : Sat E w (A :: H)) : Sat E w (B :: H) := ⟨s.1, by
  obtain ⟨h, ⟨h1, h2, d, ha, hs, rfl⟩, b⟩ := s.2
  exact ⟨_, ⟨h1, h2, d, i _ ha, hs, rfl⟩, b⟩⟩
theorem Sat.ex {α : Type} {A : α → HP} (s : Sat E w (exH A :: H)) : ∃ x, Sat E w (A x :: H) := by
  obtain ⟨e, h, ⟨h1, h2, d, ⟨x, ha⟩, hs, rfl⟩, b⟩ := s
  exact ⟨x, e, _, ⟨h1, h2, d, ha, hs, rfl⟩, b⟩
theorem Sat.ex_mk {α : Type} {A : α → HP} (x : α) (s : Sat E w (A x :: H)) : Sat E w (exH A :: H) := s.imp fun _ h => ⟨x, h⟩
theorem Sat.and {p : Prop} (s : Sat E w (andH p A :: H)) : p ∧ Sat E w (A :: H) := by
  obtain ⟨e, h, ⟨h1, h2, d, ⟨x, ha⟩, hs, rfl⟩, b⟩ := s
  exact ⟨x, e, _, ⟨h1, h2, d, ha, hs, rfl⟩, b⟩
theorem Sat.and_mk {p : Prop} (x : p) (s : Sat E w (A :: H)) : Sat E w (andH p A :: H) := s.imp fun _ h => ⟨x, h⟩
theorem Sat.flat {K : List HP} (s : Sat E w (star K :: H)) : Sat E w (K ++ H) := by
  obtain ⟨e, h, ⟨h1, h2, d, ha, hs, rfl⟩, b⟩ := s
  exact ⟨e, _, star_app hs d ha, b⟩
theorem Sat.fold {K : List HP} (s : Sat E w (K ++ H)) : Sat E w (star K :: H) := by
  obtain ⟨e, h, hs, b⟩ := s
  obtain ⟨h1, h2, d, s1, s2, rfl⟩ := star_split hs
  exact ⟨e, _, ⟨h1, h2, d, s1, s2, rfl⟩, b⟩

theorem Sat.read {b : Nat} {o : Obj} (s : Sat E w H) (k : Nat) (h : H[k]? = some (pt b o)) : w.heap[b]? = some o := by
  obtain ⟨e, h, ⟨h1, h2, d, ha, hs, rfl⟩, sb⟩ := s.front k h
  refine sb b o ?_
  rw [show h1 = PH.one b o from ha]
  simp [PH.un, PH.one]
theorem Sat.lt {b : Nat} {o : Obj} (s : Sat E w H) (k : Nat) (h : H[k]? = some (pt b o)) : b < w.heap.size := by
  have := s.read k h
  rcases Nat.lt_or_ge b w.heap.size with hlt | hge
  · exact hlt
  · rw [Array.getElem?_eq_none hge] at this; cases this
/-- Two places hold two blocks. -/
theorem Sat.ne {b c : Nat} {o p : Obj} (s : Sat E w (pt b o :: pt c p :: H)) : b ≠ c := by
  rintro rfl
  obtain ⟨e, h, ⟨h1, h2, d, ha, ⟨h3, h4, d', hb, hs, rfl⟩, rfl⟩, sb⟩ := s
  have e1 : h1 = PH.one b o := ha
  have e2 : h3 = PH.one b p := hb
  rcases d b with f | f
  · rw [e1] at f; simp [PH.one] at f
  · rw [e2] at f; simp [PH.un, PH.one] at f
theorem Sat.old {W : World} (s : Sat E w H) (k : Nat) (h : H[k]? = some (Old W)) {b : Nat} (hb : b < W.heap.size) : w.heap[b]? = W.heap[b]? := by
  obtain ⟨e, h, ⟨h1, h2, d, ha, hs, rfl⟩, sb⟩ := s.front k h
  obtain ⟨o, ho⟩ : ∃ o, W.heap[b]? = some o := ⟨_, Array.getElem?_eq_getElem hb⟩
  rw [ho]
  refine sb b o ?_
  rw [show h1 = _ from ha]
  simp [PH.un, ho]

theorem Sat.parts (s : Sat E w (A :: H)) : ∃ h h1 h2, PH.dj h1 h2 ∧ A h1 ∧ star H h2 ∧ h = PH.un h1 h2 ∧ h.sub w := by
  obtain ⟨h, ⟨h1, h2, d, ha, hs, rfl⟩, b⟩ := s.2
  exact ⟨_, h1, h2, d, ha, hs, rfl, b⟩
theorem Sat.of_parts (s : Sat E w H') {h1 h2 : PH} (d : PH.dj h1 h2) (ha : A h1) (hs : star H h2) (b : (PH.un h1 h2).sub w) : Sat E w (A :: H) := ⟨s.1, _, ⟨h1, h2, d, ha, hs, rfl⟩, b⟩
theorem Sat.cons_emp (i : ∀ h, A h) (s : Sat E w H) : Sat E w (A :: H) := by
  obtain ⟨e, h, hs, b⟩ := s
  exact ⟨e, h, ⟨fun _ => none, h, fun _ => .inl rfl, i _, hs, by funext c; simp [PH.un]⟩, b⟩

theorem Sat.init (W : World) : Sat (World.env W) W [Old W] :=
  ⟨rfl, fun b => W.heap[b]?, ⟨_, fun _ => none, fun _ => .inr rfl, rfl, trivial, by funext b; simp [PH.un]⟩, fun _ _ h => h⟩
theorem Sat.belowOld {W : World} (s : Sat (World.env W) w H) (k : Nat) (h : H[k]? = some (Old W)) : Below W.heap.size W w := by
  have hb := fun b hb => s.old k h (b := b) hb
  have e := s.1
  unfold World.env at e
  simp only [Prod.mk.injEq] at e
  refine ⟨e.1, e.2.2, e.2.1, ?_, hb⟩
  rcases Nat.lt_or_ge w.heap.size W.heap.size with hl | hge
  · have := hb w.heap.size hl
    rw [Array.getElem?_eq_none (Nat.le_refl _), Array.getElem?_eq_getElem hl] at this
    cases this
  · exact hge
/-- A step that turns nothing but what is new. -/
theorem Sat.step (s : Sat E w H) (he : World.env w' = World.env w) (hb : ∀ b, b < w.heap.size → w'.heap[b]? = w.heap[b]?) : Sat E w' H := by
  obtain ⟨e, h, hs, sb⟩ := s
  refine ⟨he.trans e, h, hs, fun b o ho => ?_⟩
  have := sb b o ho
  rw [hb b ?_]
  · exact this
  · rcases Nat.lt_or_ge b w.heap.size with hlt | hge
    · exact hlt
    · rw [Array.getElem?_eq_none hge] at this; cases this
theorem Sat.drewN (s : Sat E w H) (n : Nat) : Sat E (w.drewN n) H := s.step rfl fun _ _ => rfl
theorem Sat.drew (s : Sat E w H) : Sat E w.drew H := s.step rfl fun _ _ => rfl
theorem Sat.below (s : Sat E w H) (h : Below w.heap.size w w') : Sat E w' H := s.step (by unfold World.env; rw [h.os, h.output, h.tape]) h.block
theorem Sat.alloc (s : Sat E w H) (o : Obj) : Sat E (w.alloc o) (pt w.heap.size o :: H) := by
  obtain ⟨e, h, hs, sb⟩ := s
  refine ⟨e, PH.un (PH.one w.heap.size o) h, ⟨_, h, fun b => ?_, rfl, hs, rfl⟩, fun b p hp => ?_⟩
  · by_cases hb : b = w.heap.size
    · right
      subst hb
      cases hq : h w.heap.size with
      | none => rfl
      | some p => have := sb _ _ hq; simp at this
    · left; simp [PH.one, hb]
  · simp only [PH.un, PH.one] at hp
    by_cases hb : b = w.heap.size
    · subst hb; simp at hp; subst hp; exact heap_alloc_new w _
    · rw [if_neg hb] at hp
      simp at hp
      have := sb _ _ hp
      rw [Below.heap_alloc _ _ _ ?_]
      · exact this
      · rcases Nat.lt_or_ge b w.heap.size with hlt | hge
        · exact hlt
        · rw [Array.getElem?_eq_none hge] at this; cases this
/-- A step that turns one block. -/
theorem Sat.turn {b : Nat} {o o' : Obj} (s : Sat E w (pt b o :: H)) (he : World.env w' = World.env w) (hb : ∀ c, c ≠ b → w'.heap[c]? = w.heap[c]?) (ho : w.heap[b]? = some o → w'.heap[b]? = some o') : Sat E w' (pt b o' :: H) := by
  have hr := ho (s.read 0 rfl)
  obtain ⟨e, h, ⟨h1, h2, d, ha, hs, rfl⟩, sb⟩ := s
  have e1 : h1 = PH.one b o := ha
  subst e1
  refine ⟨he.trans e, _, ⟨PH.one b o', h2, fun c => ?_, rfl, hs, rfl⟩, fun c p hp => ?_⟩
  · rcases d c with f | f
    · left
      simp only [PH.one] at f ⊢
      by_cases hc : c = b
      · simp [hc] at f
      · simp [hc]
    · exact .inr f
  · by_cases hc : c = b
    · subst hc; simp [PH.un, PH.one] at hp; subst hp; exact hr
    · rw [hb c hc]
      refine sb c p ?_
      simpa [PH.un, PH.one, hc] using hp
/-- A step behind which a block has turned, or has been left for a new one. -/
theorem Sat.regrow {b g : Nat} {o o' : Obj} (s : Sat E w (pt b o :: H)) (he : World.env w' = World.env w) (hb : ∀ c, c < w.heap.size → c ≠ b → w'.heap[c]? = w.heap[c]?) (hg : w'.heap[g]? = some o') (hn : g = b ∨ w.heap.size ≤ g) : Sat E w' (pt g o' :: H) := by
  obtain ⟨e, h, ⟨h1, h2, d, ha, hs, rfl⟩, sb⟩ := s
  have e1 : h1 = PH.one b o := ha
  subst e1
  have hlt : ∀ c p, h2 c = some p → c < w.heap.size ∧ c ≠ b ∧ w.heap[c]? = some p := by
    intro c p hp
    have hcb : c ≠ b := by
      rintro rfl
      rcases d c with f | f
      · simp [PH.one] at f
      · rw [hp] at f; cases f
    have hr := sb c p (by simp [PH.un, PH.one, hcb, hp])
    refine ⟨?_, hcb, hr⟩
    rcases Nat.lt_or_ge c w.heap.size with hl | hge
    · exact hl
    · rw [Array.getElem?_eq_none hge] at hr; cases hr
  refine ⟨he.trans e, _, ⟨PH.one g o', h2, fun c => ?_, rfl, hs, rfl⟩, fun c p hp => ?_⟩
  · by_cases hc : c = g
    · right
      subst hc
      cases hq : h2 c with
      | none => rfl
      | some p =>
        obtain ⟨h3, h4, _⟩ := hlt c p hq
        rcases hn with rfl | hn
        · exact absurd rfl h4
        · omega
    · left; simp [PH.one, hc]
  · simp only [PH.un, PH.one] at hp
    by_cases hc : c = g
    · subst hc; simp at hp; subst hp; exact hg
    · rw [if_neg hc] at hp
      simp at hp
      obtain ⟨h3, h4, h5⟩ := hlt c p hp
      rw [hb c h3 h4]; exact h5
/-- A step behind which there is one new block. -/
theorem Sat.newblk {g : Nat} {o' : Obj} (s : Sat E w H) (he : World.env w' = World.env w) (hb : ∀ c, c < w.heap.size → w'.heap[c]? = w.heap[c]?) (hg : w'.heap[g]? = some o') (hn : w.heap.size ≤ g) : Sat E w' (pt g o' :: H) := by
  have s' := s.step he hb
  obtain ⟨e, h, hs, sb⟩ := s
  have hlt : ∀ c p, h c = some p → c < w.heap.size := by
    intro c p hp
    have hr := sb c p hp
    rcases Nat.lt_or_ge c w.heap.size with hl | hge
    · exact hl
    · rw [Array.getElem?_eq_none hge] at hr; cases hr
  refine ⟨he.trans e, PH.un (PH.one g o') h, ⟨_, h, fun c => ?_, rfl, hs, rfl⟩, fun c p hp => ?_⟩
  · by_cases hc : c = g
    · right
      subst hc
      cases hq : h c with
      | none => rfl
      | some p => have := hlt c p hq; omega
    · left; simp [PH.one, hc]
  · simp only [PH.un, PH.one] at hp
    by_cases hc : c = g
    · subst hc; simp at hp; subst hp; exact hg
    · rw [if_neg hc] at hp
      simp at hp
      rw [hb c (hlt c p hp)]
      exact sb c p hp
theorem Sat.setCell {b i : Nat} {cs : Array Value} {T : TypeId} {fr : Nat × Nat} {v : Value} (s : Sat E w (pt b (.cells cs T fr) :: H)) :
    Sat E (w.setCell ⟨b, i, none⟩ v) (pt b (.cells (cs.setIfInBounds i v) T fr) :: H) :=
  s.turn rfl (fun c hc => Below.heap_setCell w ⟨b, i, none⟩ v c hc) (fun h => by
    simp [World.setCell, Array.getElem?_modify, h])
theorem Sat.setRow {b : Nat} {cs cs' : Array Value} {T : TypeId} {fr : Nat × Nat} (s : Sat E w (pt b (.cells cs T fr) :: H)) :
    Sat E (w.setRow b cs') (pt b (.cells cs' T fr) :: H) :=
  s.turn rfl (fun c hc => by simp only [World.setRow, Array.getElem?_modify]; rw [if_neg (fun e => hc e.symm)]) (fun h => by
    simp [World.setRow, Array.getElem?_modify, h])
theorem Sat.setChan {c : Nat} {o : Obj} (cap : Nat) (buf : Array Value) (cl : Bool) (m r : Nat) (tm : Bool) (s : Sat E w (pt c o :: H)) :
    Sat E (w.setChan c cap buf cl m r tm) (pt c (.chan cap buf cl m r tm) :: H) :=
  s.turn rfl (fun d hd => by simp only [World.setChan]; rw [Array.getElem?_setIfInBounds_ne (fun e => hd e.symm)])
    (fun _ => Conc.heap_setChan w c cap buf cl m r tm (s.lt 0 rfl))
end
/-- Whatever holds H holds K. -/
def Gets (H K : List HP) : Prop := ∀ h, star H h → star K h
section
variable {E : Env} {w w' : World} {H K F : List HP} {A B : HP}
theorem Gets.refl (H : List HP) : Gets H H := fun _ h => h
theorem Gets.nil : Gets H [] := fun _ _ => trivial
theorem Gets.get (k : Nat) (hk : H[k]? = some A) (e : Gets (H.eraseIdx k) K) : Gets H (A :: K) := fun h s => star_cons e (star_perm (perm_front k hk) h s)
theorem Gets.drop (e : Gets H K) : Gets (A :: H) K := fun h s => by
  obtain ⟨h1, h2, d, _, hs, rfl⟩ := s
  exact star_more d (e _ hs)
theorem Sat.gets (s : Sat E w H) (e : Gets H K) : Sat E w K := ⟨s.1, let ⟨h, hs, b⟩ := s.2; ⟨h, e h hs, b⟩⟩
end
/-- A part of the heap that is kept as it is. -/
def Arc (h0 : PH) : HP := fun h => h = h0
def PH.le (h k : PH) : Prop := ∀ b o, h b = some o → k b = some o
def PH.nil : PH := fun _ => none
theorem PH.le_refl (h : PH) : PH.le h h := fun _ _ e => e
theorem PH.le_trans {a b c : PH} (h : PH.le a b) (k : PH.le b c) : PH.le a c := fun i o e => k i o (h i o e)
theorem PH.le_unL (h k : PH) : PH.le h (PH.un h k) := fun b o e => by simp [PH.un, e]
theorem PH.le_unR {h k : PH} (d : PH.dj h k) : PH.le k (PH.un h k) := fun b o e => by
  rcases d b with f | f
  · simp [PH.un, f, e]
  · rw [f] at e; cases e
section
variable {E : Env} {w w' : World} {H K F : List HP} {A B : HP}
theorem Sat.arc_read {h0 : PH} {b : Nat} {o : Obj} (s : Sat E w H) (k : Nat) (hk : H[k]? = some (Arc h0)) (hb : h0 b = some o) : w.heap[b]? = some o := by
  obtain ⟨e, h, ⟨h1, h2, d, ha, hs, rfl⟩, sb⟩ := s.front k hk
  refine sb b o ?_
  rw [show h1 = h0 from ha]
  simp [PH.un, hb]
theorem Sat.arc_new (s : Sat E w H) : Sat E w (Arc PH.nil :: H) := by
  obtain ⟨e, h, hs, b⟩ := s
  exact ⟨e, h, ⟨fun _ => none, h, fun _ => .inl rfl, rfl, hs, by funext c; simp [PH.un]⟩, b⟩
theorem Sat.arc_add {h0 : PH} {b : Nat} {o : Obj} (s : Sat E w (pt b o :: Arc h0 :: F)) : PH.le h0 (PH.un (PH.one b o) h0) ∧ Sat E w (Arc (PH.un (PH.one b o) h0) :: F) := by
  obtain ⟨e, h, ⟨h1, h2, d, ha, ⟨h3, h4, d', hb, hs, rfl⟩, rfl⟩, sb⟩ := s
  have e1 : h1 = PH.one b o := ha
  have e2 : h3 = h0 := hb
  subst e1; subst e2
  obtain ⟨d1, d2⟩ := PH.dj_un.1 d
  exact ⟨PH.le_unR d1, e, _, ⟨_, h4, PH.un_dj.2 ⟨d2, d'⟩, rfl, hs, rfl⟩, by rw [PH.un_assoc]; exact sb⟩
theorem Sat.arc_join {h0 k0 : PH} (s : Sat E w (Arc h0 :: Arc k0 :: F)) : PH.le h0 (PH.un h0 k0) ∧ PH.le k0 (PH.un h0 k0) ∧ Sat E w (Arc (PH.un h0 k0) :: F) := by
  obtain ⟨e, h, ⟨h1, h2, d, ha, ⟨h3, h4, d', hb, hs, rfl⟩, rfl⟩, sb⟩ := s
  have e1 : h1 = h0 := ha
  have e2 : h3 = k0 := hb
  subst e1; subst e2
  obtain ⟨d1, d2⟩ := PH.dj_un.1 d
  exact ⟨PH.le_unL _ _, PH.le_unR d1, e, _, ⟨_, h4, PH.un_dj.2 ⟨d2, d'⟩, rfl, hs, rfl⟩, by rw [PH.un_assoc]; exact sb⟩
end
attribute [irreducible] pt Old exH andH star Sat Arc
end Go.Bst
