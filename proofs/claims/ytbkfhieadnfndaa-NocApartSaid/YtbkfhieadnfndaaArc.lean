/- Parts of the heap that are kept as they are; bytes as strings; calls of methods of a known kind. Conditions: none. -/
import Derived.Test.YtbkfhieadnfndaaU64
import Derived.Laws.BytesArg
set_option linter.unusedVariables false
set_option linter.unusedSimpArgs false
namespace Go.Bst
open Go.RowKit Go.MapKept

/-- A slice value of n elements (sz cells each) reads, in a part of the heap, as the cells xs. -/
def RdP (h : PH) (sz : Nat) (v : Value) (n : Nat) (xs : List Value) : Prop :=
  ∃ A cap, v = .slice A n cap ∧ n ≤ cap ∧ xs.length = n * sz ∧ (0 < n → ∃ b off cs T fr, A = some ⟨b, off, none⟩ ∧ h b = some (.cells cs T fr) ∧ ∀ j u, xs[j]? = some u → cs[off + j]? = some u)
theorem RdP.mono {h k : PH} {sz n : Nat} {v : Value} {xs : List Value} (l : PH.le h k) (r : RdP h sz v n xs) : RdP k sz v n xs := by
  obtain ⟨A, cap, h1, h2, h3, h4⟩ := r
  exact ⟨A, cap, h1, h2, h3, fun hn => let ⟨b, off, cs, T, fr, e1, e2, e3⟩ := h4 hn; ⟨b, off, cs, T, fr, e1, l _ _ e2, e3⟩⟩
theorem RdP.rd {E : Env} {w : World} {H : List HP} {h : PH} {sz n : Nat} {v : Value} {xs : List Value} (r : RdP h sz v n xs) (s : Sat E w H) (k : Nat) (hk : H[k]? = some (Arc h)) : Rd w sz v n xs := by
  obtain ⟨A, cap, h1, h2, h3, h4⟩ := r
  exact ⟨A, cap, h1, h2, h3, fun hn => by
    obtain ⟨b, off, cs, T, fr, e1, e2, e3⟩ := h4 hn
    exact ⟨_, e1, fun j u hu => by rw [add_at, cell_of_row w b (off + j) cs T fr (s.arc_read k hk e2)]; exact e3 j u hu⟩⟩
theorem RdP.nil (h : PH) (sz : Nat) : RdP h sz (.slice none 0 0) 0 [] := ⟨none, 0, rfl, Nat.le_refl _, by simp, fun e => absurd e (by omega)⟩
theorem Row_arc {E : Env} {w : World} {F : List HP} {h : PH} {e : TypeId} {sz n : Nat} {v : Value} {xs : List Value} (s : Sat E w (Row e sz v n xs :: Arc h :: F)) : ∃ h', PH.le h h' ∧ RdP h' sz v n xs ∧ Sat E w (Arc h' :: F) := by
  rcases Row_open s with ⟨rfl, rfl, rfl, s'⟩ | ⟨g, cap, cur, rfl, h2, h3, h4, h5, h6, s'⟩
  · exact ⟨h, PH.le_refl h, RdP.nil h sz, s'⟩
  · obtain ⟨l, s''⟩ := s'.arc_add
    refine ⟨_, l, ⟨_, cap, rfl, h2, h6, fun _ => ⟨g, 0, cur, e, (0, 0), rfl, by simp [PH.un, PH.one], fun j u hu => ?_⟩⟩, s''⟩
    rw [← h5, List.getElem?_take] at hu
    split at hu
    · rw [Nat.zero_add]; simpa using hu
    · cases hu

theorem Row_arcAt {E : Env} {w : World} {H : List HP} {h : PH} {e : TypeId} {sz n : Nat} {v : Value} {xs : List Value} (s : Sat E w H) (kr ka : Nat) (hr : H[kr]? = some (Row e sz v n xs)) (ha : (H.eraseIdx kr)[ka]? = some (Arc h)) :
    ∃ h', PH.le h h' ∧ RdP h' sz v n xs ∧ Sat E w (Arc h' :: (H.eraseIdx kr).eraseIdx ka) := by
  have s1 := (s.front kr hr).front (ka + 1) (by simpa using ha)
  have s2 : Sat E w (Row e sz v n xs :: Arc h :: (H.eraseIdx kr).eraseIdx ka) := s1.front 1 rfl
  exact Row_arc s2

def strOf (l : List UInt8) : ByteArray := ⟨l.toArray⟩
theorem strOf_inj {l m : List UInt8} (h : Value.string (strOf l) = Value.string (strOf m)) : l = m := by
  injection h with h
  have := congrArg (fun s : ByteArray => s.data.toList) h
  simpa [strOf] using this
theorem Y_num (c : UInt8) : Y c = Value.int .u8 (c.toNat : Int) := by unfold Y; rfl
section
variable {P : Program} {w : World} {o : Oper} {a : Act} {x : Operand} {s d e : TypeId}
theorem rn_tostr {l : List UInt8} {v : Value} (ho : o.op = .convert s d x) (hx : a.eval x = v) (r : Rd w 1 v l.length (ybs l)) (hs : P.underlying s = some (.slice e)) (he : P.underlying e = some (.int .u8)) (hd : P.underlying d = some .string) :
    (execOp a.eval o).run P w = .ok (.value (.string (strOf l))) w := by
  obtain ⟨A, cap, rfl, h2, h3, h4⟩ := r
  have key : (convert s d (.slice A l.length cap)).run P w = .ok (.string (strOf l)) w := by
    cases A with
    | none =>
      have hl : l = [] := by
        cases l with
        | nil => rfl
        | cons c l => obtain ⟨_, e, _⟩ := h4 (by simp); cases e
      subst hl
      exact run_convert_bytes_nil w s e hs he _ _ d hd
    | some ad =>
      have hc : (loadCells ad l.length).run P w = .ok (((l.map fun c : UInt8 => (c.toNat : Int))).map (Value.int .u8)).toArray w := by
        have hh : ((l.map fun c : UInt8 => (c.toNat : Int)).map (Value.int .u8)) = ybs l := by
          unfold ybs
          rw [List.map_map]
          exact List.map_congr_left fun c _ => (Y_num c).symm
        rw [hh]
        have := run_loadCells_list (P := P) w ad (ybs l) (fun j u hu => by
          have hpos : 0 < l.length := by
            rcases Nat.eq_zero_or_pos l.length with q | q
            · have : ybs l = [] := List.eq_nil_of_length_eq_zero (by rw [ybs_len, q])
              rw [this] at hu; simp at hu
            · exact q
          obtain ⟨ad', e1, hc⟩ := h4 hpos
          injection e1 with e1; subst e1
          exact hc j u hu)
        rwa [ybs_len] at this
      rw [run_convert_bytes_string w s d e _ _ cap hs he hd, run_bytesToString w _ _ cap _ hc, foldl_push_bytes]
      have hm : (l.map fun c : UInt8 => (c.toNat : Int)).map (fun n => UInt8.ofNat n.toNat) = l := by
        rw [List.map_map]
        conv => rhs; rw [← List.map_id l]
        exact List.map_congr_left fun c _ => by simp
      rw [hm]
      simp [strOf, ByteArray.empty, ByteArray.emptyWithCapacity]
      rfl
  unfold execOp
  simp [ho, hx, key]
end
section
variable {P : Program} {ops : Array Oper} {Q : Exit → Act → World → Prop} {K : Act → World → Prop} {rest : List Oper} {dd : Option Tmp} {tt : TypeId} {pos : String} {after : Array Edge} {a : Act} {w : World} {o : Oper} {x : Operand}
theorem run_invoke {T : TypeId} {v : Value} {name : String} {f : FuncId} (args : Array Value) (hm : (method (P.types.size + Made.depth) T v name).run P w = .ok (f, v) w) (hf : callB P f = true) :
    (callMethod (.iface T v) name args).run P w = .ok (.enter f (#[v] ++ args)) w := by
  unfold callMethod
  simp only [Sem.run_bind, run_program, Result.andThen_ok, hm, run_callFunc hf]
theorem wk_invoke (f : FuncId) {T : TypeId} {v : Value} {args : Array Operand} {ts : Array TypeId} {name : String} (ho : o.op = .call { callee := .invoke x name, args := args, argTypes := ts }) (hx : a.eval x = .iface T v)
    (hm : (method (P.types.size + Made.depth) T v name).run P w = .ok (f, v) w) (hf : callB P f = true) (hc : Calls P f (#[v] ++ args.map a.eval) w fun e w' => ∃ v, e = .returned v ∧ K (a.put o.dst v) w') : Oper.wp P o a w K Q :=
  wk_enter f (#[v] ++ args.map a.eval) (by
    unfold execOp
    have := run_invoke (args.map a.eval) hm hf
    have e1 : (#[Value.iface T v] ++ args.map a.eval)[0]? = some (.iface T v) := by rw [Array.getElem?_append_left (by simp)]; rfl
    have e3 : (args.map a.eval).extract 0 args.size = args.map a.eval := by
      have := Array.extract_size (xs := args.map a.eval)
      rwa [Array.size_map] at this
    simp only [ho, resolve, Sem.run_bind, Sem.run_pure, Result.andThen_ok, invoke, hx, e1]
    simp [this, e3]) hc
theorem wl_invoke (f : FuncId) {T : TypeId} {v : Value} {args : Array Operand} {ts : Array TypeId} {name : String} (hx : a.eval x = .iface T v)
    (hm : (method (P.types.size + Made.depth) T v name).run P w = .ok (f, v) w) (hf : callB P f = true) (hc : Calls P f (#[v] ++ args.map a.eval) w fun e w' => ∃ v, e = .returned v ∧ wpList P ops Q rest (a.put dd v) w') :
    wpList P ops Q ({ dst := dd, op := .call { callee := .invoke x name, args := args, argTypes := ts }, type := tt, pos := pos, after := after, guard := none } :: rest) a w :=
  wpList_plain rfl fun K hK => wk_invoke f rfl hx hm hf (hc.mono fun e w' ⟨v, e1, h⟩ => ⟨v, e1, hK _ _ h⟩)
end
section
variable {P : Program} {E : Env} {w : World} {H : List HP} {o : Oper} {a : Act} {x y : Operand} {t kt et : TypeId} {b : Nat} {good : Value → Prop} {f : Value → Option Value} {key z : Value}
theorem rn_lookup2 (ho : o.op = .lookup t x y true) (hw : Sat E w H) (k : Nat) (hx : a.eval x = .map (some b)) (hk : H[k]? = some (Mf b good f)) (K : KeyKind P kt good) (hu : P.underlying t = some (.map kt et)) (hz : zeroOf P et = some z) (hy : a.eval y = key) (hg : good key) (v : Value) (ok : Bool) (hv : (f key).getD z = v) (hok : (f key).isSome = ok) :
    (execOp a.eval o).run P w = .ok (.value (.tuple #[v, .bool ok])) w := by
  subst hv; subst hok
  have := run_map_lookup (P := P) hw k hk K hu hz hg true
  unfold execOp
  simp [ho, hx, hy, this]
end
section
variable {P : Program} {K : Act → World → Prop} {Q : Exit → Act → World → Prop} {E : Env} {w : World} {H : List HP} {o : Oper} {a : Act} {x : Operand} {t e : TypeId} {b : Nat}
theorem Sat.freeze {cs : Array Value} {T : TypeId} {F : List HP} (s : Sat E w (pt b (.cells cs T (0, 0)) :: F)) (n : Nat) : Sat E (w.freeze ⟨b, n, none⟩ 1) (pt b (.cells cs T (n, n + 1)) :: F) :=
  s.turn rfl (fun c hc => by simp only [World.freeze]; rw [if_neg (by omega)]; simp only [Array.getElem?_modify]; rw [if_neg (fun e => hc e.symm)]) (fun h => by
    simp only [World.freeze]; rw [if_neg (by omega)]; simp [Array.getElem?_modify, h])
/-- A literal of bytes that becomes a slice of bytes: the cell behind it is marked. -/
theorem wk_bytesLit {cs : Array Value} {T : TypeId} {n cap : Nat} (ho : o.op = .convert t t x) (hw : Sat E w H) (k : Nat) (hx : a.eval x = .slice (some ⟨b, 0, none⟩) n cap) (hk : H[k]? = some (pt b (.cells cs T (0, 0)))) (hu : P.underlying t = some (.slice e)) (he : P.underlying e = some (.int .u8))
    (h : ∀ w', Sat E w' (H.set k (pt b (.cells cs T (cs.size, cs.size + 1)))) → K (a.put o.dst (.slice (some ⟨b, 0, none⟩) n cap)) w') : Oper.wp P o a w K Q := by
  have hb := hw.read k hk
  have hr : (execOp a.eval o).run P w = .ok (.value (.slice (some ⟨b, 0, none⟩) n cap)) (w.freeze ⟨b, cs.size, none⟩ 1) := by
    unfold execOp
    have hsh : w.shape? b = some (T, cs.size) := by unfold World.shape?; rw [hb]
    simp [ho, hx, convert, run_underlying hu, run_underlying he, markStringish, shape, freeze, Sem.run, hsh]
  unfold Oper.wp
  rw [hr]
  exact h _ (hw.upd k hk fun _ s => s.freeze _)
end
end Go.Bst
