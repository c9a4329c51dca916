/- The net's links in order; how many messages there are. Conditions: none. -/
import Derived.Test.YtbkfhieadnfndaaNocW
import Derived.Test.YtbkfhieadnfndaaSrt
set_option linter.unusedVariables false
set_option linter.unusedSimpArgs false
namespace Go.Proofs.Ytbkfhieadnfndaa
open Go Go.RowKit Go.Sx Go.Bst
set_option maxRecDepth 100000
set_option maxHeartbeats 4000000
theorem sorted_uniq {α : Type} {R : α → α → Prop} (irr : ∀ a, ¬ R a a) (tr : ∀ a b c, R a b → R b c → R a c) : ∀ {l m : List α}, l.Pairwise R → m.Pairwise R → (∀ x, x ∈ l ↔ x ∈ m) → l = m
  | [], [], _, _, _ => rfl
  | [], b :: m, _, _, h => absurd ((h b).2 List.mem_cons_self) (by simp)
  | a :: l, [], _, _, h => absurd ((h a).1 List.mem_cons_self) (by simp)
  | a :: l, b :: m, hl, hm, h => by
    have h1 := List.pairwise_cons.1 hl
    have h2 := List.pairwise_cons.1 hm
    have e : a = b := by
      rcases List.mem_cons.1 ((h a).1 List.mem_cons_self) with e | e
      · exact e
      rcases List.mem_cons.1 ((h b).2 List.mem_cons_self) with e' | e'
      · exact e'.symm
      exact absurd (tr _ _ _ (h1.1 b e') (h2.1 a e)) (irr a)
    subst e
    rw [sorted_uniq irr tr h1.2 h2.2 fun x => ⟨fun hx => ?_, fun hx => ?_⟩]
    · rcases List.mem_cons.1 ((h x).1 (List.mem_cons_of_mem _ hx)) with e | e
      · subst e; exact absurd (h1.1 x hx) (irr x)
      · exact e
    · rcases List.mem_cons.1 ((h x).2 (List.mem_cons_of_mem _ hx)) with e | e
      · subst e; exact absurd (h2.1 x hx) (irr x)
      · exact e
theorem lks_sorted (n : Nat) : (lks n).Pairwise lkLt := by
  unfold lks
  rw [List.pairwise_flatMap]
  refine ⟨fun a ha => ?_, ?_⟩
  · rw [List.pairwise_flatMap]
    refine ⟨fun f hf => ?_, ?_⟩
    · rw [List.pairwise_map]
      exact (List.pairwise_lt_range (n := n)).imp fun {x y} hlt => .inr ⟨rfl, .inr ⟨rfl, by show (x : Int) < (y : Int); omega⟩⟩
    · refine (List.pairwise_lt_range (n := n)).imp fun {x y} hlt u hu v hv => ?_
      obtain ⟨p, _, rfl⟩ := List.mem_map.1 hu
      obtain ⟨q, _, rfl⟩ := List.mem_map.1 hv
      exact .inr ⟨rfl, .inl (by show (x : Int) < (y : Int); omega)⟩
  · refine (List.pairwise_lt_range (n := 3)).imp fun {x y} hlt u hu v hv => ?_
    simp only [List.mem_flatMap, List.mem_map] at hu hv
    obtain ⟨_, _, _, _, rfl⟩ := hu
    obtain ⟨_, _, _, _, rfl⟩ := hv
    exact .inl (by show (x : Int) < (y : Int); omega)
theorem sorted_lks {n : Nat} {xs l : List Lk} (h : AllLk n xs) (hp : l.Perm xs) (hs : l.Pairwise fun x y => ¬ lkLt y x) : l = lks n := by
  have hnd : l.Nodup := hp.nodup_iff.2 h.1
  have hs2 : l.Pairwise lkLt := by
    rw [List.nodup_iff_pairwise_ne] at hnd
    refine (hs.and hnd).imp fun {x y} ⟨h1, h2⟩ => ?_
    unfold lkLt at h1 ⊢
    have : ¬ (x.1 = y.1 ∧ x.2.1 = y.2.1 ∧ x.2.2 = y.2.2) := fun ⟨e1, e2, e3⟩ => h2 (Prod.ext e1 (Prod.ext e2 e3))
    omega
  refine sorted_uniq (fun a => by unfold lkLt; omega) (fun a b c => by unfold lkLt; omega) hs2 (lks_sorted n) fun x => ?_
  rw [hp.mem_iff, h.2, mem_lks]
theorem AllLk.len {n : Nat} {xs : List Lk} (hn : n ≤ 16) (h : AllLk n xs) : xs.length ≤ 1000000000 := by
  have := nodup_le h.1 (r := lks n) fun x hx => mem_lks.2 ((h.2 x).1 hx)
  rw [lks_len] at this
  have hn2 : n * n ≤ 16 * 16 := Nat.mul_le_mul hn hn
  omega
def cColl : Mc := .seq (.reg [⟨some 2, .assign (.const (.slice none 0 0)), 77, none, .no⟩]) (.seq (.reg [⟨some 3, .move (.tmp 0), 123, none, .no⟩, ⟨some 4, .call { callee := .value (.func 62), args := ⟨[.const (.slice none 0 0), .tmp 3]⟩, argTypes := ⟨[77, 123]⟩ }, 77, none, .one⟩, ⟨some 2, .assign (.tmp 4), 77, none, .no⟩]) .ret)
theorem cColl_ok : mcOf Try.prog Try.f57.ntmps (Try.f57.body.getD .skip) = cColl := by kernel_rfl
theorem cColl_res : resOf Try.prog Try.f57.results.toList = some [.tmp 2] := by kernel_rfl
def cSortd : Mc := .seq (.reg [⟨some 4, .assign (.const (.slice none 0 0)), 77, none, .no⟩]) (.seq (.reg [⟨some 6, .move (.tmp 0), 123, none, .no⟩, ⟨some 7, .call { callee := .value (.func 57), args := ⟨[.tmp 6]⟩, argTypes := ⟨[123]⟩ }, 77, none, .one⟩, ⟨some 5, .assign (.tmp 7), 77, none, .no⟩]) (.seq (.reg [⟨some 8, .move (.tmp 5), 77, none, .no⟩, ⟨some 9, .move (.tmp 1), 125, none, .no⟩, ⟨some 10, .call { callee := .value (.func 58), args := ⟨[.tmp 8, .tmp 9]⟩, argTypes := ⟨[77, 125]⟩ }, 0, none, .one⟩]) (.seq (.reg [⟨some 11, .move (.tmp 5), 77, none, .no⟩, ⟨some 4, .assign (.tmp 11), 77, none, .no⟩]) .ret)))
theorem cSortd_ok : mcOf Try.prog Try.f54.ntmps (Try.f54.body.getD .skip) = cSortd := by kernel_rfl
theorem cSortd_res : resOf Try.prog Try.f54.results.toList = some [.tmp 4] := by kernel_rfl
section
variable {E : Env} {w : World} {F : List HP} {A : HP} {S : List Lk → Prop} {g : Nat} {lb : Array Value} {b n room : Nat} {st : Lk → List (Array Value)}
theorem coll_links (hg : callB Try.prog g = true) (hh : Hits g lb E S A) (hw : Sat E w (A :: F)) :
    Calls Try.prog 57 #[.func (.func g) #[] lb] w fun e w' => ∃ v xs, e = .returned v ∧ S xs ∧ Sat E w' (Row 82 3 v xs.length (flat (xs.map lkA)) :: A :: F) := by
  refine calls_ok hmo Try.func57 rfl cColl_ok cColl_res [(0, .v (.func (.func g) #[] lb))] [] _ hw (by exact Nat.le_of_ble_eq_true rfl) (by simp [argsOk, isV]) ?_
  refine run_ok 4000 _ _ _ _ ?_; simp only [cColl, sx, Nat.reduceBEq, Nat.reduceAdd, Nat.reduceLeDiff, Nat.reduceMul, Int.toNat_natCast]
  refine call_go fun w hs => ?_
  refine (append_seq hg hh hs).mono ?_
  rintro e w ⟨v, xs, rfl, hS, hw⟩
  refine ⟨.v v, _, Row 82 3 v xs.length (flat (xs.map lkA)) :: A :: F, rfl, rfl, hw, trivial, ?_⟩
  refine run_ok 4000 _ _ _ _ ?_; simp only [sx, Nat.reduceBEq, Nat.reduceAdd, Nat.reduceLeDiff, Nat.reduceMul, Int.toNat_natCast]
  intro w hs
  exact ⟨v, xs, rfl, hS, hs⟩
theorem sorted_links (hg : callB Try.prog g = true) (hn : n ≤ 16) (hh : Hits g lb E (AllLk n) A) (hw : Sat E w (A :: F)) :
    Calls Try.prog 54 #[.func (.func g) #[] lb, .func (.func 56) #[] #[]] w fun e w' => ∃ v, e = .returned v ∧ Sat E w' (Row 82 3 v (lks n).length (flat ((lks n).map lkA)) :: A :: F) := by
  refine calls_ok hmo Try.func54 rfl cSortd_ok cSortd_res [(0, .v (.func (.func g) #[] lb)), (1, .v (.func (.func 56) #[] #[]))] [] _ hw (by exact Nat.le_of_ble_eq_true rfl) (by simp [argsOk, isV]) ?_
  refine run_ok 4000 _ _ _ _ ?_; simp only [cSortd, sx, Nat.reduceBEq, Nat.reduceAdd, Nat.reduceLeDiff, Nat.reduceMul, Int.toNat_natCast]
  refine call_go fun w hs => ?_
  refine (coll_links hg hh hs).mono ?_
  rintro e w ⟨v, xs, rfl, hS, hw⟩
  refine ⟨.v v, _, Row 82 3 v xs.length (flat (xs.map lkA)) :: A :: F, rfl, rfl, hw, trivial, ?_⟩
  refine run_ok 4000 _ _ _ _ ?_; simp only [sx, Nat.reduceBEq, Nat.reduceAdd, Nat.reduceLeDiff, Nat.reduceMul, Int.toNat_natCast]
  refine call_go fun w hs => ?_
  refine (sort_links (hS.len hn) hs).mono ?_
  rintro e w ⟨rfl, l', hp, hs', hw⟩
  have e := sorted_lks hS hp hs'
  subst e
  rw [← hp.length_eq] at hw
  refine ⟨.v (.tuple #[]), _, Row 82 3 v (lks n).length (flat ((lks n).map lkA)) :: A :: F, rfl, rfl, hw, trivial, ?_⟩
  refine run_ok 4000 _ _ _ _ ?_; simp only [sx, Nat.reduceBEq, Nat.reduceAdd, Nat.reduceLeDiff, Nat.reduceMul, Int.toNat_natCast]
  intro w hs
  exact ⟨v, rfl, hs⟩
end
end Go.Proofs.Ytbkfhieadnfndaa
