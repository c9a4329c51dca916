/-
  No cell of these rows narrows 'for every input' (looked for: loops, veiled, ifaces, maps, wideKeys, modest, calm, conditions, laid).
  DERIVED. THE GIVEN ROWS OF THIS SEAT. 3 by the template 'for every input the law returns true; each argument reads behind the call as it read before'; 0 by the template 'total and deterministic' (their statements: YtklhmlplabkoeaaTotals.lean).
  GIVEN WITH THE SEED: the statements are not yours to turn. If you find one false, say at which input.
  Laid BY PROGRAM, IN A SANDBOX (cutbox-rows.mjs): the forced cells as the released guide's own fill.sh prints them over the translation 9c28efbde4515edc… (all of the seat's roots in one cut). By AI agents, Wed Nov 11 2026. No macro, syntax, notation, axiom, sorry.
-/
import Derived.Test.YtklhmlplabkoeaaChecked
import GoSem.Claim
import GoSem.ClaimJoined
import GoSem.ClaimMapViews
import Derived.JoinedTies
import Derived.KernelRfl
namespace Go.Proofs.Ytklhmlplabkoeaa
/- THE CELL 'sum', in the pinned program and in every row, IS THE sha256 OF THE DUMP (.gsa) THAT YtklhmlplabkoeaaProg.lean LOADS. Nothing in Lean hashes anything: it is a label: what it is worth is what the hold of that sum in a sandbox is worth. -/
noncomputable def Try.pinned : Pinned := { name := "ytklhmlplabkoeaa", sum := "9c28efbde4515edc5491c65b873f406c704d4e4cf1bf9cd504faa4692f60a233", checked := Try.checked }
namespace Rows
def none {H : Type} : Left H := { results := [], args := [] }

/-- 'bastionlaw23.WatchCores': WHATEVER THE INPUT: true; the input reads as it did. -/
def watchCoresSpec : ChangeSpec := { name := "watchCores", fn := fun _ => fun
  | [d1, d2, d3] => { results := [.lit (.bool true)], args := [d1, d2, d3] }
  | _ => none }
def watchCoresRow : OpenClaim := { program := "ytklhmlplabkoeaa", sum := "9c28efbde4515edc5491c65b873f406c704d4e4cf1bf9cd504faa4692f60a233", func := "bastion/bastionlaw23.WatchCores", spec := "watchCores", unfollowed := true, recurses := true, plainKeys := false, apart := false }
def WatchCoresSaid : Prop := watchCoresRow.holds Try.pinned (OpenSpec.ofChange watchCoresSpec)

/-- ITS FALSE NEIGHBOUR: 'it returns false'. Refute it at one input. -/
def watchCoresWrong : ChangeSpec := { name := "watchCores", fn := fun _ => fun
  | [d1, d2, d3] => { results := [.lit (.bool false)], args := [d1, d2, d3] }
  | _ => none }
def WatchCoresWrongFalsely : Prop := watchCoresRow.holds Try.pinned (OpenSpec.ofChange watchCoresWrong)

/-- 'bastionlaw26.ProbeActs': WHATEVER THE INPUT: true; the input reads as it did. -/
def probeActsSpec : ChangeSpec := { name := "probeActs", fn := fun _ => fun
  | [d1, d2] => { results := [.lit (.bool true)], args := [d1, d2] }
  | _ => none }
def probeActsRow : OpenClaim := { program := "ytklhmlplabkoeaa", sum := "9c28efbde4515edc5491c65b873f406c704d4e4cf1bf9cd504faa4692f60a233", func := "bastion/bastionlaw26.ProbeActs", spec := "probeActs", plainKeys := false, apart := false }
def ProbeActsSaid : Prop := probeActsRow.holds Try.pinned (OpenSpec.ofChange probeActsSpec)

/-- ITS FALSE NEIGHBOUR: 'it returns false'. Refute it at one input. -/
def probeActsWrong : ChangeSpec := { name := "probeActs", fn := fun _ => fun
  | [d1, d2] => { results := [.lit (.bool false)], args := [d1, d2] }
  | _ => none }
def ProbeActsWrongFalsely : Prop := probeActsRow.holds Try.pinned (OpenSpec.ofChange probeActsWrong)

/-- 'bastionlaw26.ProbeTouches': WHATEVER THE INPUT: true; the input reads as it did. -/
def probeTouchesSpec : ChangeSpec := { name := "probeTouches", fn := fun _ => fun
  | [d1, d2] => { results := [.lit (.bool true)], args := [d1, d2] }
  | _ => none }
def probeTouchesRow : OpenClaim := { program := "ytklhmlplabkoeaa", sum := "9c28efbde4515edc5491c65b873f406c704d4e4cf1bf9cd504faa4692f60a233", func := "bastion/bastionlaw26.ProbeTouches", spec := "probeTouches", unfollowed := true, recurses := true, plainKeys := false, apart := false }
def ProbeTouchesSaid : Prop := probeTouchesRow.holds Try.pinned (OpenSpec.ofChange probeTouchesSpec)

/-- ITS FALSE NEIGHBOUR: 'it returns false'. Refute it at one input. -/
def probeTouchesWrong : ChangeSpec := { name := "probeTouches", fn := fun _ => fun
  | [d1, d2] => { results := [.lit (.bool false)], args := [d1, d2] }
  | _ => none }
def ProbeTouchesWrongFalsely : Prop := probeTouchesRow.holds Try.pinned (OpenSpec.ofChange probeTouchesWrong)

/- THE SECOND FORM. 'bulk': how many values and letters a reading holds, each counted each time it is reached (what is shared counts as often as it is met; a slice's spare places count too). A statement '..UptoSaid' is the law's where the arguments, and the package variables that the reading takes, are together of bulk at most 1048576: NARROWER than '..Said'. Prove '..Said' where nothing that the law and all that it calls make is longer than what came in: it says more and counts as full. Else prove '..UptoSaid'. A law counts once. -/
mutual
def uptoBulk {H : Type} : DataW H → Nat
  | .lit (.string bytes) => bytes.length + 1
  | .lit _ => 1
  | .nil => 1
  | .ptr d => uptoBulk d + 1
  | .slice elems spare => uptoBulkAll elems + uptoBulkAll spare + 1
  | .agg parts => uptoBulkAll parts + 1
  | .iface _ d => uptoBulk d + 1
  | .map entries => uptoBulkEntries entries + 1
  | .held _ => 1
def uptoBulkAll {H : Type} : List (DataW H) → Nat
  | [] => 0
  | d :: r => uptoBulk d + uptoBulkAll r
def uptoBulkEntries {H : Type} : List (Lit × DataW H) → Nat
  | [] => 0
  | x :: r => uptoBulkEntry x + uptoBulkEntries r
def uptoBulkEntry {H : Type} : Lit × DataW H → Nat
  | (.string bytes, d) => bytes.length + uptoBulk d + 1
  | (_, d) => uptoBulk d + 1
 end
def uptoSmall : (H : Type) → List (DataW H) → Bool := fun _ ds => decide (uptoBulkAll ds ≤ 1048576)
def OpenSpec.upto (s : _root_.Go.ChangeSpec) : _root_.Go.OpenSpec := { _root_.Go.OpenSpec.ofChange s with cond := some uptoSmall }

/-- 'bastionlaw23.WatchCores', WHERE WHAT IT READS IS OF BULK AT MOST 1048576: true; the input reads as it did. -/
def watchCoresUptoRow : OpenClaim := { program := "ytklhmlplabkoeaa", sum := "9c28efbde4515edc5491c65b873f406c704d4e4cf1bf9cd504faa4692f60a233", func := "bastion/bastionlaw23.WatchCores", spec := "watchCores", unfollowed := true, recurses := true, plainKeys := false, apart := false, narrowed := true }
def WatchCoresUptoSaid : Prop := watchCoresUptoRow.holds Try.pinned (OpenSpec.upto watchCoresSpec)

/-- 'bastionlaw26.ProbeActs', WHERE WHAT IT READS IS OF BULK AT MOST 1048576: true; the input reads as it did. -/
def probeActsUptoRow : OpenClaim := { program := "ytklhmlplabkoeaa", sum := "9c28efbde4515edc5491c65b873f406c704d4e4cf1bf9cd504faa4692f60a233", func := "bastion/bastionlaw26.ProbeActs", spec := "probeActs", plainKeys := false, apart := false, narrowed := true }
def ProbeActsUptoSaid : Prop := probeActsUptoRow.holds Try.pinned (OpenSpec.upto probeActsSpec)

/-- 'bastionlaw26.ProbeTouches', WHERE WHAT IT READS IS OF BULK AT MOST 1048576: true; the input reads as it did. -/
def probeTouchesUptoRow : OpenClaim := { program := "ytklhmlplabkoeaa", sum := "9c28efbde4515edc5491c65b873f406c704d4e4cf1bf9cd504faa4692f60a233", func := "bastion/bastionlaw26.ProbeTouches", spec := "probeTouches", unfollowed := true, recurses := true, plainKeys := false, apart := false, narrowed := true }
def ProbeTouchesUptoSaid : Prop := probeTouchesUptoRow.holds Try.pinned (OpenSpec.upto probeTouchesSpec)

end Rows
end Go.Proofs.Ytklhmlplabkoeaa
