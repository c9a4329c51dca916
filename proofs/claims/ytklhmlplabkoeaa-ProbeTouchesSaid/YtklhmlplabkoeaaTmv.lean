/- The cells of what an adversary does. Conditions: none. -/
import Derived.Test.YtklhmlplabkoeaaActL
import Derived.Test.YtklhmlplabkoeaaCmp
import Derived.Test.YtklhmlplabkoeaaProg
set_option linter.unusedVariables false
set_option linter.unusedSimpArgs false
namespace Go.Proofs.Ytklhmlplabkoeaa
open Go.RowKit Go.Bst
theorem Tmv.size (x : Tmv) (v : Value) : (x.cs v).size = 5 := rfl
theorem Tmv.c0 (x : Tmv) (v : Value) : (x.cs v)[0]? = some (.int .i64 x.kind) := rfl
theorem Tmv.c1 (x : Tmv) (v : Value) : (x.cs v)[1]? = some (.int .i64 x.loc) := rfl
theorem Tmv.c2 (x : Tmv) (v : Value) : (x.cs v)[2]? = some (.int .i64 x.to) := rfl
theorem Tmv.c3 (x : Tmv) (v : Value) : (x.cs v)[3]? = some (.int .i64 x.n) := rfl
theorem Tmv.c4 (x : Tmv) (v : Value) : (x.cs v)[4]? = some v := rfl
theorem Tmv.s1 (x : Tmv) (v : Value) (n : Int) : (x.cs v).setIfInBounds 1 (.int .i64 n) = ({ x with loc := n } : Tmv).cs v := rfl
theorem Tmv.s4 (x : Tmv) (v u : Value) : (x.cs v).setIfInBounds 4 u = x.cs u := rfl
theorem Tmv.one (x : Tmv) {A : Option Addr} {n c : Nat} : (x.cs (.slice A n c)).all (·.oneCell') = true := by
  have e : ∀ k n, (Value.int k n).oneCell' = true := fun _ _ => rfl
  have e2 : (Value.slice A n c).oneCell' = true := rfl
  unfold Tmv.cs
  simp only [List.all_toArray, List.all_cons, List.all_nil, e, e2, Bool.and_true]
section
variable {w : World}
theorem tm_zero : zeroOf Try.prog 62 = some (.agg ((Tmv.mk 0 0 0 0).cs (.slice none 0 0))) := by unfold Tmv.cs; kernel_rfl
theorem tm_agg : aggSize Try.prog 62 = some 5 := by kernel_rfl
theorem tm_info : (Try.prog.info? 62).map (·.size) = some 5 := by kernel_rfl
theorem tm_builds (a c d n : Int) (A : Option Addr) (l cp : Nat) : buildC Try.prog 62 [(0, #[.int .i64 a]), (1, #[.int .i64 c]), (2, #[.int .i64 d]), (3, #[.int .i64 n]), (4, #[.slice A l cp])] = some ((Tmv.mk a c d n).cs (.slice A l cp)) := by unfold Tmv.cs; kernel_rfl
theorem rn_tmb {o : Oper} {a : Act} {x0 x1 x2 x3 x4 : Operand} {k l t n : Int} {A : Option Addr} {m cp : Nat} (ho : o.op = .build 62 #[(0, x0), (1, x1), (2, x2), (3, x3), (4, x4)]) (h0 : a.eval x0 = .int .i64 k) (h1 : a.eval x1 = .int .i64 l) (h2 : a.eval x2 = .int .i64 t) (h3 : a.eval x3 = .int .i64 n) (h4 : a.eval x4 = .slice A m cp) :
    (execOp a.eval o).run Try.prog w = .ok (.value (.agg ((Tmv.mk k l t n).cs (.slice A m cp)))) w :=
  rn_build _ ho (by simp only [List.map_cons, List.map_nil, h0, h1, h2, h3, h4]; rfl) (tm_builds k l t n A m cp)
end
end Go.Proofs.Ytklhmlplabkoeaa
