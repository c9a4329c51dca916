/-
  No cell of these rows narrows 'for every input' (looked for: loops, veiled, ifaces, maps, wideKeys, modest, calm, conditions, laid).
  DERIVED. THE GIVEN ROWS OF THIS SEAT. 9 by the template 'for every input the law returns true; each argument reads behind the call as it read before'; 0 by the template 'total and deterministic' (their statements: YtbkfhieadnfndaaTotals.lean).
  GIVEN WITH THE SEED: the statements are not yours to turn. If you find one false, say at which input.
  Laid BY PROGRAM, IN A SANDBOX (cutbox-rows.mjs): the forced cells as the released guide's own fill.sh prints them over the translation 1378b6d1e14c1c0f… (all of the seat's roots in one cut). By AI agents, Wed Nov 11 2026. No macro, syntax, notation, axiom, sorry.
-/
import Derived.Test.YtbkfhieadnfndaaChecked
import GoSem.Claim
import GoSem.ClaimJoined
import GoSem.ClaimMapViews
import Derived.JoinedTies
import Derived.KernelRfl
namespace Go.Proofs.Ytbkfhieadnfndaa
/- THE CELL 'sum', in the pinned program and in every row, IS THE sha256 OF THE DUMP (.gsa) THAT YtbkfhieadnfndaaProg.lean LOADS. Nothing in Lean hashes anything: it is a label: what it is worth is what the hold of that sum in a sandbox is worth. -/
noncomputable def Try.pinned : Pinned := { name := "ytbkfhieadnfndaa", sum := "1378b6d1e14c1c0fd65800bdc45a51caaf742adbdf315319b1dce84e5f4a9919", checked := Try.checked }
namespace Rows
def none {H : Type} : Left H := { results := [], args := [] }

/-- 'bastionlaw09.RingOrder': WHATEVER THE INPUT: true; the input reads as it did. -/
def ringOrderSpec : ChangeSpec := { name := "ringOrder", fn := fun _ => fun
  | [d1, d2] => { results := [.lit (.bool true)], args := [d1, d2] }
  | _ => none }
def ringOrderRow : OpenClaim := { program := "ytbkfhieadnfndaa", sum := "1378b6d1e14c1c0fd65800bdc45a51caaf742adbdf315319b1dce84e5f4a9919", func := "bastion/bastionlaw09.RingOrder", spec := "ringOrder", plainKeys := false, apart := false }
def RingOrderSaid : Prop := ringOrderRow.holds Try.pinned (OpenSpec.ofChange ringOrderSpec)

/-- ITS FALSE NEIGHBOUR: 'it returns false'. Refute it at one input. -/
def ringOrderWrong : ChangeSpec := { name := "ringOrder", fn := fun _ => fun
  | [d1, d2] => { results := [.lit (.bool false)], args := [d1, d2] }
  | _ => none }
def RingOrderWrongFalsely : Prop := ringOrderRow.holds Try.pinned (OpenSpec.ofChange ringOrderWrong)

/-- 'bastionlaw09.RingTurns': WHATEVER THE INPUT: true; the input reads as it did. -/
def ringTurnsSpec : ChangeSpec := { name := "ringTurns", fn := fun _ => fun
  | [d1, d2] => { results := [.lit (.bool true)], args := [d1, d2] }
  | _ => none }
def ringTurnsRow : OpenClaim := { program := "ytbkfhieadnfndaa", sum := "1378b6d1e14c1c0fd65800bdc45a51caaf742adbdf315319b1dce84e5f4a9919", func := "bastion/bastionlaw09.RingTurns", spec := "ringTurns", plainKeys := false, apart := false }
def RingTurnsSaid : Prop := ringTurnsRow.holds Try.pinned (OpenSpec.ofChange ringTurnsSpec)

/-- ITS FALSE NEIGHBOUR: 'it returns false'. Refute it at one input. -/
def ringTurnsWrong : ChangeSpec := { name := "ringTurns", fn := fun _ => fun
  | [d1, d2] => { results := [.lit (.bool false)], args := [d1, d2] }
  | _ => none }
def RingTurnsWrongFalsely : Prop := ringTurnsRow.holds Try.pinned (OpenSpec.ofChange ringTurnsWrong)

/-- 'bastionlaw09.RingCalls': WHATEVER THE INPUT: true; the input reads as it did. -/
def ringCallsSpec : ChangeSpec := { name := "ringCalls", fn := fun _ => fun
  | [d1, d2] => { results := [.lit (.bool true)], args := [d1, d2] }
  | _ => none }
def ringCallsRow : OpenClaim := { program := "ytbkfhieadnfndaa", sum := "1378b6d1e14c1c0fd65800bdc45a51caaf742adbdf315319b1dce84e5f4a9919", func := "bastion/bastionlaw09.RingCalls", spec := "ringCalls", plainKeys := false, apart := false }
def RingCallsSaid : Prop := ringCallsRow.holds Try.pinned (OpenSpec.ofChange ringCallsSpec)

/-- ITS FALSE NEIGHBOUR: 'it returns false'. Refute it at one input. -/
def ringCallsWrong : ChangeSpec := { name := "ringCalls", fn := fun _ => fun
  | [d1, d2] => { results := [.lit (.bool false)], args := [d1, d2] }
  | _ => none }
def RingCallsWrongFalsely : Prop := ringCallsRow.holds Try.pinned (OpenSpec.ofChange ringCallsWrong)

/-- 'bastionlaw19.TraceCalls': WHATEVER THE INPUT: true; the input reads as it did. -/
def traceCallsSpec : ChangeSpec := { name := "traceCalls", fn := fun _ => fun
  | [d1, d2, d3] => { results := [.lit (.bool true)], args := [d1, d2, d3] }
  | _ => none }
def traceCallsRow : OpenClaim := { program := "ytbkfhieadnfndaa", sum := "1378b6d1e14c1c0fd65800bdc45a51caaf742adbdf315319b1dce84e5f4a9919", func := "bastion/bastionlaw19.TraceCalls", spec := "traceCalls", plainKeys := false, apart := false }
def TraceCallsSaid : Prop := traceCallsRow.holds Try.pinned (OpenSpec.ofChange traceCallsSpec)

/-- ITS FALSE NEIGHBOUR: 'it returns false'. Refute it at one input. -/
def traceCallsWrong : ChangeSpec := { name := "traceCalls", fn := fun _ => fun
  | [d1, d2, d3] => { results := [.lit (.bool false)], args := [d1, d2, d3] }
  | _ => none }
def TraceCallsWrongFalsely : Prop := traceCallsRow.holds Try.pinned (OpenSpec.ofChange traceCallsWrong)

/-- 'bastionlaw19.TraceOnce': WHATEVER THE INPUT: true; the input reads as it did. -/
def traceOnceSpec : ChangeSpec := { name := "traceOnce", fn := fun _ => fun
  | [d1, d2] => { results := [.lit (.bool true)], args := [d1, d2] }
  | _ => none }
def traceOnceRow : OpenClaim := { program := "ytbkfhieadnfndaa", sum := "1378b6d1e14c1c0fd65800bdc45a51caaf742adbdf315319b1dce84e5f4a9919", func := "bastion/bastionlaw19.TraceOnce", spec := "traceOnce", plainKeys := false, apart := false }
def TraceOnceSaid : Prop := traceOnceRow.holds Try.pinned (OpenSpec.ofChange traceOnceSpec)

/-- ITS FALSE NEIGHBOUR: 'it returns false'. Refute it at one input. -/
def traceOnceWrong : ChangeSpec := { name := "traceOnce", fn := fun _ => fun
  | [d1, d2] => { results := [.lit (.bool false)], args := [d1, d2] }
  | _ => none }
def TraceOnceWrongFalsely : Prop := traceOnceRow.holds Try.pinned (OpenSpec.ofChange traceOnceWrong)

/-- 'bastionlaw19.TraceTells': WHATEVER THE INPUT: true; the input reads as it did. -/
def traceTellsSpec : ChangeSpec := { name := "traceTells", fn := fun _ => fun
  | [d1, d2, d3, d4, d5, d6] => { results := [.lit (.bool true)], args := [d1, d2, d3, d4, d5, d6] }
  | _ => none }
def traceTellsRow : OpenClaim := { program := "ytbkfhieadnfndaa", sum := "1378b6d1e14c1c0fd65800bdc45a51caaf742adbdf315319b1dce84e5f4a9919", func := "bastion/bastionlaw19.TraceTells", spec := "traceTells", plainKeys := false, apart := false }
def TraceTellsSaid : Prop := traceTellsRow.holds Try.pinned (OpenSpec.ofChange traceTellsSpec)

/-- ITS FALSE NEIGHBOUR: 'it returns false'. Refute it at one input. -/
def traceTellsWrong : ChangeSpec := { name := "traceTells", fn := fun _ => fun
  | [d1, d2, d3, d4, d5, d6] => { results := [.lit (.bool false)], args := [d1, d2, d3, d4, d5, d6] }
  | _ => none }
def TraceTellsWrongFalsely : Prop := traceTellsRow.holds Try.pinned (OpenSpec.ofChange traceTellsWrong)

/-- 'bastionlaw10.NocOrder': WHATEVER THE INPUT: true; the input reads as it did. -/
def nocOrderSpec : ChangeSpec := { name := "nocOrder", fn := fun _ => fun
  | [d1, d2, d3, d4, d5] => { results := [.lit (.bool true)], args := [d1, d2, d3, d4, d5] }
  | _ => none }
def nocOrderRow : OpenClaim := { program := "ytbkfhieadnfndaa", sum := "1378b6d1e14c1c0fd65800bdc45a51caaf742adbdf315319b1dce84e5f4a9919", func := "bastion/bastionlaw10.NocOrder", spec := "nocOrder", unfollowed := true, recurses := true, plainKeys := false, apart := false }
def NocOrderSaid : Prop := nocOrderRow.holds Try.pinned (OpenSpec.ofChange nocOrderSpec)

/-- ITS FALSE NEIGHBOUR: 'it returns false'. Refute it at one input. -/
def nocOrderWrong : ChangeSpec := { name := "nocOrder", fn := fun _ => fun
  | [d1, d2, d3, d4, d5] => { results := [.lit (.bool false)], args := [d1, d2, d3, d4, d5] }
  | _ => none }
def NocOrderWrongFalsely : Prop := nocOrderRow.holds Try.pinned (OpenSpec.ofChange nocOrderWrong)

/-- 'bastionlaw10.NocApart': WHATEVER THE INPUT: true; the input reads as it did. -/
def nocApartSpec : ChangeSpec := { name := "nocApart", fn := fun _ => fun
  | [d1, d2, d3, d4, d5] => { results := [.lit (.bool true)], args := [d1, d2, d3, d4, d5] }
  | _ => none }
def nocApartRow : OpenClaim := { program := "ytbkfhieadnfndaa", sum := "1378b6d1e14c1c0fd65800bdc45a51caaf742adbdf315319b1dce84e5f4a9919", func := "bastion/bastionlaw10.NocApart", spec := "nocApart", unfollowed := true, recurses := true, plainKeys := false, apart := false }
def NocApartSaid : Prop := nocApartRow.holds Try.pinned (OpenSpec.ofChange nocApartSpec)

/-- ITS FALSE NEIGHBOUR: 'it returns false'. Refute it at one input. -/
def nocApartWrong : ChangeSpec := { name := "nocApart", fn := fun _ => fun
  | [d1, d2, d3, d4, d5] => { results := [.lit (.bool false)], args := [d1, d2, d3, d4, d5] }
  | _ => none }
def NocApartWrongFalsely : Prop := nocApartRow.holds Try.pinned (OpenSpec.ofChange nocApartWrong)

/-- 'bastionlaw10.NocCalls': WHATEVER THE INPUT: true; the input reads as it did. -/
def nocCallsSpec : ChangeSpec := { name := "nocCalls", fn := fun _ => fun
  | [d1, d2, d3, d4] => { results := [.lit (.bool true)], args := [d1, d2, d3, d4] }
  | _ => none }
def nocCallsRow : OpenClaim := { program := "ytbkfhieadnfndaa", sum := "1378b6d1e14c1c0fd65800bdc45a51caaf742adbdf315319b1dce84e5f4a9919", func := "bastion/bastionlaw10.NocCalls", spec := "nocCalls", unfollowed := true, recurses := true, plainKeys := false, apart := false }
def NocCallsSaid : Prop := nocCallsRow.holds Try.pinned (OpenSpec.ofChange nocCallsSpec)

/-- ITS FALSE NEIGHBOUR: 'it returns false'. Refute it at one input. -/
def nocCallsWrong : ChangeSpec := { name := "nocCalls", fn := fun _ => fun
  | [d1, d2, d3, d4] => { results := [.lit (.bool false)], args := [d1, d2, d3, d4] }
  | _ => none }
def NocCallsWrongFalsely : Prop := nocCallsRow.holds Try.pinned (OpenSpec.ofChange nocCallsWrong)

/- THE SECOND FORM. 'bulk': how many values and letters a reading holds, each counted each time it is reached (what is shared counts as often as it is met; a slice's spare places count too). A statement '..UptoSaid' is the law's where the arguments, and the package variables that the reading takes, are together of bulk at most 1048576: NARROWER than '..Said'. Prove '..Said' where nothing that the law and all that it calls make is longer than what came in: it says more and counts as full. Else prove '..UptoSaid'. A law counts once. -/
mutual
def uptoBulk {H : Type} : DataW H → Nat
  | .lit (.string bytes) => bytes.length + 1
  | .lit _ => 1
  | .nil => 1
  | .ptr d => uptoBulk d + 1
  | .slice elems spare => uptoBulkAll elems + uptoBulkAll spare + 1
  | .agg parts => uptoBulkAll parts + 1
  | .iface _ d => uptoBulk d + 1
  | .map entries => uptoBulkEntries entries + 1
  | .held _ => 1
def uptoBulkAll {H : Type} : List (DataW H) → Nat
  | [] => 0
  | d :: r => uptoBulk d + uptoBulkAll r
def uptoBulkEntries {H : Type} : List (Lit × DataW H) → Nat
  | [] => 0
  | x :: r => uptoBulkEntry x + uptoBulkEntries r
def uptoBulkEntry {H : Type} : Lit × DataW H → Nat
  | (.string bytes, d) => bytes.length + uptoBulk d + 1
  | (_, d) => uptoBulk d + 1
 end
def uptoSmall : (H : Type) → List (DataW H) → Bool := fun _ ds => decide (uptoBulkAll ds ≤ 1048576)
def OpenSpec.upto (s : _root_.Go.ChangeSpec) : _root_.Go.OpenSpec := { _root_.Go.OpenSpec.ofChange s with cond := some uptoSmall }

/-- 'bastionlaw09.RingOrder', WHERE WHAT IT READS IS OF BULK AT MOST 1048576: true; the input reads as it did. -/
def ringOrderUptoRow : OpenClaim := { program := "ytbkfhieadnfndaa", sum := "1378b6d1e14c1c0fd65800bdc45a51caaf742adbdf315319b1dce84e5f4a9919", func := "bastion/bastionlaw09.RingOrder", spec := "ringOrder", plainKeys := false, apart := false, narrowed := true }
def RingOrderUptoSaid : Prop := ringOrderUptoRow.holds Try.pinned (OpenSpec.upto ringOrderSpec)

/-- 'bastionlaw09.RingTurns', WHERE WHAT IT READS IS OF BULK AT MOST 1048576: true; the input reads as it did. -/
def ringTurnsUptoRow : OpenClaim := { program := "ytbkfhieadnfndaa", sum := "1378b6d1e14c1c0fd65800bdc45a51caaf742adbdf315319b1dce84e5f4a9919", func := "bastion/bastionlaw09.RingTurns", spec := "ringTurns", plainKeys := false, apart := false, narrowed := true }
def RingTurnsUptoSaid : Prop := ringTurnsUptoRow.holds Try.pinned (OpenSpec.upto ringTurnsSpec)

/-- 'bastionlaw09.RingCalls', WHERE WHAT IT READS IS OF BULK AT MOST 1048576: true; the input reads as it did. -/
def ringCallsUptoRow : OpenClaim := { program := "ytbkfhieadnfndaa", sum := "1378b6d1e14c1c0fd65800bdc45a51caaf742adbdf315319b1dce84e5f4a9919", func := "bastion/bastionlaw09.RingCalls", spec := "ringCalls", plainKeys := false, apart := false, narrowed := true }
def RingCallsUptoSaid : Prop := ringCallsUptoRow.holds Try.pinned (OpenSpec.upto ringCallsSpec)

/-- 'bastionlaw19.TraceCalls', WHERE WHAT IT READS IS OF BULK AT MOST 1048576: true; the input reads as it did. -/
def traceCallsUptoRow : OpenClaim := { program := "ytbkfhieadnfndaa", sum := "1378b6d1e14c1c0fd65800bdc45a51caaf742adbdf315319b1dce84e5f4a9919", func := "bastion/bastionlaw19.TraceCalls", spec := "traceCalls", plainKeys := false, apart := false, narrowed := true }
def TraceCallsUptoSaid : Prop := traceCallsUptoRow.holds Try.pinned (OpenSpec.upto traceCallsSpec)

/-- 'bastionlaw19.TraceOnce', WHERE WHAT IT READS IS OF BULK AT MOST 1048576: true; the input reads as it did. -/
def traceOnceUptoRow : OpenClaim := { program := "ytbkfhieadnfndaa", sum := "1378b6d1e14c1c0fd65800bdc45a51caaf742adbdf315319b1dce84e5f4a9919", func := "bastion/bastionlaw19.TraceOnce", spec := "traceOnce", plainKeys := false, apart := false, narrowed := true }
def TraceOnceUptoSaid : Prop := traceOnceUptoRow.holds Try.pinned (OpenSpec.upto traceOnceSpec)

/-- 'bastionlaw19.TraceTells', WHERE WHAT IT READS IS OF BULK AT MOST 1048576: true; the input reads as it did. -/
def traceTellsUptoRow : OpenClaim := { program := "ytbkfhieadnfndaa", sum := "1378b6d1e14c1c0fd65800bdc45a51caaf742adbdf315319b1dce84e5f4a9919", func := "bastion/bastionlaw19.TraceTells", spec := "traceTells", plainKeys := false, apart := false, narrowed := true }
def TraceTellsUptoSaid : Prop := traceTellsUptoRow.holds Try.pinned (OpenSpec.upto traceTellsSpec)

/-- 'bastionlaw10.NocOrder', WHERE WHAT IT READS IS OF BULK AT MOST 1048576: true; the input reads as it did. -/
def nocOrderUptoRow : OpenClaim := { program := "ytbkfhieadnfndaa", sum := "1378b6d1e14c1c0fd65800bdc45a51caaf742adbdf315319b1dce84e5f4a9919", func := "bastion/bastionlaw10.NocOrder", spec := "nocOrder", unfollowed := true, recurses := true, plainKeys := false, apart := false, narrowed := true }
def NocOrderUptoSaid : Prop := nocOrderUptoRow.holds Try.pinned (OpenSpec.upto nocOrderSpec)

/-- 'bastionlaw10.NocApart', WHERE WHAT IT READS IS OF BULK AT MOST 1048576: true; the input reads as it did. -/
def nocApartUptoRow : OpenClaim := { program := "ytbkfhieadnfndaa", sum := "1378b6d1e14c1c0fd65800bdc45a51caaf742adbdf315319b1dce84e5f4a9919", func := "bastion/bastionlaw10.NocApart", spec := "nocApart", unfollowed := true, recurses := true, plainKeys := false, apart := false, narrowed := true }
def NocApartUptoSaid : Prop := nocApartUptoRow.holds Try.pinned (OpenSpec.upto nocApartSpec)

/-- 'bastionlaw10.NocCalls', WHERE WHAT IT READS IS OF BULK AT MOST 1048576: true; the input reads as it did. -/
def nocCallsUptoRow : OpenClaim := { program := "ytbkfhieadnfndaa", sum := "1378b6d1e14c1c0fd65800bdc45a51caaf742adbdf315319b1dce84e5f4a9919", func := "bastion/bastionlaw10.NocCalls", spec := "nocCalls", unfollowed := true, recurses := true, plainKeys := false, apart := false, narrowed := true }
def NocCallsUptoSaid : Prop := nocCallsUptoRow.holds Try.pinned (OpenSpec.upto nocCallsSpec)

end Rows
end Go.Proofs.Ytbkfhieadnfndaa
