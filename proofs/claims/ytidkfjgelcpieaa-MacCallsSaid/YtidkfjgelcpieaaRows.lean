/-
  No cell of these rows narrows 'for every input' (looked for: loops, veiled, ifaces, maps, wideKeys, modest, calm, conditions, laid).
  DERIVED. THE GIVEN ROWS OF THIS SEAT. 9 by the template 'for every input the law returns true; each argument reads behind the call as it read before'; 0 by the template 'total and deterministic' (their statements: YtidkfjgelcpieaaTotals.lean).
  GIVEN WITH THE SEED: the statements are not yours to turn. If you find one false, say at which input.
  Laid BY PROGRAM, IN A SANDBOX (cutbox-rows.mjs): the forced cells as the released guide's own fill.sh prints them over the translation 03701b35fbe6b671… (all of the seat's roots in one cut). By AI agents, Wed Nov 11 2026. No macro, syntax, notation, axiom, sorry.
-/
import Derived.Test.YtidkfjgelcpieaaChecked
import GoSem.Claim
import GoSem.ClaimJoined
import GoSem.ClaimMapViews
import Derived.JoinedTies
import Derived.KernelRfl
namespace Go.Proofs.Ytidkfjgelcpieaa
/- THE CELL 'sum', in the pinned program and in every row, IS THE sha256 OF THE DUMP (.gsa) THAT YtidkfjgelcpieaaProg.lean LOADS. Nothing in Lean hashes anything: it is a label: what it is worth is what the hold of that sum in a sandbox is worth. -/
noncomputable def Try.pinned : Pinned := { name := "ytidkfjgelcpieaa", sum := "03701b35fbe6b671ba1f3bf5047583d21467296521b333b528db31ed37a77a39", checked := Try.checked }
namespace Rows
def none {H : Type} : Left H := { results := [], args := [] }

/-- 'bastionlaw03.SipSums': WHATEVER THE INPUT: true; the input reads as it did. -/
def sipSumsSpec : ChangeSpec := { name := "sipSums", fn := fun _ => fun
  | [d1, d2, d3] => { results := [.lit (.bool true)], args := [d1, d2, d3] }
  | _ => none }
def sipSumsRow : OpenClaim := { program := "ytidkfjgelcpieaa", sum := "03701b35fbe6b671ba1f3bf5047583d21467296521b333b528db31ed37a77a39", func := "bastion/bastionlaw03.SipSums", spec := "sipSums", unfollowed := true, recurses := true, apart := false }
def SipSumsSaid : Prop := sipSumsRow.holds Try.pinned (OpenSpec.ofChange sipSumsSpec)

/-- ITS FALSE NEIGHBOUR: 'it returns false'. Refute it at one input. -/
def sipSumsWrong : ChangeSpec := { name := "sipSums", fn := fun _ => fun
  | [d1, d2, d3] => { results := [.lit (.bool false)], args := [d1, d2, d3] }
  | _ => none }
def SipSumsWrongFalsely : Prop := sipSumsRow.holds Try.pinned (OpenSpec.ofChange sipSumsWrong)

/-- 'bastionlaw03.SipParts': WHATEVER THE INPUT: true; the input reads as it did. -/
def sipPartsSpec : ChangeSpec := { name := "sipParts", fn := fun _ => fun
  | [d1, d2] => { results := [.lit (.bool true)], args := [d1, d2] }
  | _ => none }
def sipPartsRow : OpenClaim := { program := "ytidkfjgelcpieaa", sum := "03701b35fbe6b671ba1f3bf5047583d21467296521b333b528db31ed37a77a39", func := "bastion/bastionlaw03.SipParts", spec := "sipParts", unfollowed := true, recurses := true, apart := false }
def SipPartsSaid : Prop := sipPartsRow.holds Try.pinned (OpenSpec.ofChange sipPartsSpec)

/-- ITS FALSE NEIGHBOUR: 'it returns false'. Refute it at one input. -/
def sipPartsWrong : ChangeSpec := { name := "sipParts", fn := fun _ => fun
  | [d1, d2] => { results := [.lit (.bool false)], args := [d1, d2] }
  | _ => none }
def SipPartsWrongFalsely : Prop := sipPartsRow.holds Try.pinned (OpenSpec.ofChange sipPartsWrong)

/-- 'bastionlaw03.SipRounds': WHATEVER THE INPUT: true; the input reads as it did. -/
def sipRoundsSpec : ChangeSpec := { name := "sipRounds", fn := fun _ => fun
  | [d1, d2] => { results := [.lit (.bool true)], args := [d1, d2] }
  | _ => none }
def sipRoundsRow : OpenClaim := { program := "ytidkfjgelcpieaa", sum := "03701b35fbe6b671ba1f3bf5047583d21467296521b333b528db31ed37a77a39", func := "bastion/bastionlaw03.SipRounds", spec := "sipRounds", unfollowed := true, recurses := true, apart := false }
def SipRoundsSaid : Prop := sipRoundsRow.holds Try.pinned (OpenSpec.ofChange sipRoundsSpec)

/-- ITS FALSE NEIGHBOUR: 'it returns false'. Refute it at one input. -/
def sipRoundsWrong : ChangeSpec := { name := "sipRounds", fn := fun _ => fun
  | [d1, d2] => { results := [.lit (.bool false)], args := [d1, d2] }
  | _ => none }
def SipRoundsWrongFalsely : Prop := sipRoundsRow.holds Try.pinned (OpenSpec.ofChange sipRoundsWrong)

/-- 'bastionlaw03.SipSame': WHATEVER THE INPUT: true; the input reads as it did. -/
def sipSameSpec : ChangeSpec := { name := "sipSame", fn := fun _ => fun
  | [d1, d2, d3] => { results := [.lit (.bool true)], args := [d1, d2, d3] }
  | _ => none }
def sipSameRow : OpenClaim := { program := "ytidkfjgelcpieaa", sum := "03701b35fbe6b671ba1f3bf5047583d21467296521b333b528db31ed37a77a39", func := "bastion/bastionlaw03.SipSame", spec := "sipSame", unfollowed := true, recurses := true, apart := false }
def SipSameSaid : Prop := sipSameRow.holds Try.pinned (OpenSpec.ofChange sipSameSpec)

/-- ITS FALSE NEIGHBOUR: 'it returns false'. Refute it at one input. -/
def sipSameWrong : ChangeSpec := { name := "sipSame", fn := fun _ => fun
  | [d1, d2, d3] => { results := [.lit (.bool false)], args := [d1, d2, d3] }
  | _ => none }
def SipSameWrongFalsely : Prop := sipSameRow.holds Try.pinned (OpenSpec.ofChange sipSameWrong)

/-- 'bastionlaw04.MacMarks': WHATEVER THE INPUT: true; the input reads as it did. -/
def macMarksSpec : ChangeSpec := { name := "macMarks", fn := fun _ => fun
  | [d1, d2, d3] => { results := [.lit (.bool true)], args := [d1, d2, d3] }
  | _ => none }
def macMarksRow : OpenClaim := { program := "ytidkfjgelcpieaa", sum := "03701b35fbe6b671ba1f3bf5047583d21467296521b333b528db31ed37a77a39", func := "bastion/bastionlaw04.MacMarks", spec := "macMarks", unfollowed := true, recurses := true, apart := false }
def MacMarksSaid : Prop := macMarksRow.holds Try.pinned (OpenSpec.ofChange macMarksSpec)

/-- ITS FALSE NEIGHBOUR: 'it returns false'. Refute it at one input. -/
def macMarksWrong : ChangeSpec := { name := "macMarks", fn := fun _ => fun
  | [d1, d2, d3] => { results := [.lit (.bool false)], args := [d1, d2, d3] }
  | _ => none }
def MacMarksWrongFalsely : Prop := macMarksRow.holds Try.pinned (OpenSpec.ofChange macMarksWrong)

/-- 'bastionlaw04.MacIdeal': WHATEVER THE INPUT: true; the input reads as it did. -/
def macIdealSpec : ChangeSpec := { name := "macIdeal", fn := fun _ => fun
  | [d] => { results := [.lit (.bool true)], args := [d] }
  | _ => none }
def macIdealRow : OpenClaim := { program := "ytidkfjgelcpieaa", sum := "03701b35fbe6b671ba1f3bf5047583d21467296521b333b528db31ed37a77a39", func := "bastion/bastionlaw04.MacIdeal", spec := "macIdeal", unfollowed := true, recurses := true, apart := false }
def MacIdealSaid : Prop := macIdealRow.holds Try.pinned (OpenSpec.ofChange macIdealSpec)

/-- ITS FALSE NEIGHBOUR: 'it returns false'. Refute it at one input. -/
def macIdealWrong : ChangeSpec := { name := "macIdeal", fn := fun _ => fun
  | [d] => { results := [.lit (.bool false)], args := [d] }
  | _ => none }
def MacIdealWrongFalsely : Prop := macIdealRow.holds Try.pinned (OpenSpec.ofChange macIdealWrong)

/-- 'bastionlaw04.MacTold': WHATEVER THE INPUT: true; the input reads as it did. -/
def macToldSpec : ChangeSpec := { name := "macTold", fn := fun _ => fun
  | [d1, d2] => { results := [.lit (.bool true)], args := [d1, d2] }
  | _ => none }
def macToldRow : OpenClaim := { program := "ytidkfjgelcpieaa", sum := "03701b35fbe6b671ba1f3bf5047583d21467296521b333b528db31ed37a77a39", func := "bastion/bastionlaw04.MacTold", spec := "macTold", unfollowed := true, recurses := true, apart := false }
def MacToldSaid : Prop := macToldRow.holds Try.pinned (OpenSpec.ofChange macToldSpec)

/-- ITS FALSE NEIGHBOUR: 'it returns false'. Refute it at one input. -/
def macToldWrong : ChangeSpec := { name := "macTold", fn := fun _ => fun
  | [d1, d2] => { results := [.lit (.bool false)], args := [d1, d2] }
  | _ => none }
def MacToldWrongFalsely : Prop := macToldRow.holds Try.pinned (OpenSpec.ofChange macToldWrong)

/-- 'bastionlaw04.MacCalls': WHATEVER THE INPUT: true; the input reads as it did. -/
def macCallsSpec : ChangeSpec := { name := "macCalls", fn := fun _ => fun
  | [d1, d2, d3] => { results := [.lit (.bool true)], args := [d1, d2, d3] }
  | _ => none }
def macCallsRow : OpenClaim := { program := "ytidkfjgelcpieaa", sum := "03701b35fbe6b671ba1f3bf5047583d21467296521b333b528db31ed37a77a39", func := "bastion/bastionlaw04.MacCalls", spec := "macCalls", unfollowed := true, recurses := true, apart := false }
def MacCallsSaid : Prop := macCallsRow.holds Try.pinned (OpenSpec.ofChange macCallsSpec)

/-- ITS FALSE NEIGHBOUR: 'it returns false'. Refute it at one input. -/
def macCallsWrong : ChangeSpec := { name := "macCalls", fn := fun _ => fun
  | [d1, d2, d3] => { results := [.lit (.bool false)], args := [d1, d2, d3] }
  | _ => none }
def MacCallsWrongFalsely : Prop := macCallsRow.holds Try.pinned (OpenSpec.ofChange macCallsWrong)

/-- 'bastionlaw04.MacTwo': WHATEVER THE INPUT: true; the input reads as it did. -/
def macTwoSpec : ChangeSpec := { name := "macTwo", fn := fun _ => fun
  | [d1, d2, d3] => { results := [.lit (.bool true)], args := [d1, d2, d3] }
  | _ => none }
def macTwoRow : OpenClaim := { program := "ytidkfjgelcpieaa", sum := "03701b35fbe6b671ba1f3bf5047583d21467296521b333b528db31ed37a77a39", func := "bastion/bastionlaw04.MacTwo", spec := "macTwo", unfollowed := true, recurses := true, apart := false }
def MacTwoSaid : Prop := macTwoRow.holds Try.pinned (OpenSpec.ofChange macTwoSpec)

/-- ITS FALSE NEIGHBOUR: 'it returns false'. Refute it at one input. -/
def macTwoWrong : ChangeSpec := { name := "macTwo", fn := fun _ => fun
  | [d1, d2, d3] => { results := [.lit (.bool false)], args := [d1, d2, d3] }
  | _ => none }
def MacTwoWrongFalsely : Prop := macTwoRow.holds Try.pinned (OpenSpec.ofChange macTwoWrong)

/- THE SECOND FORM. 'bulk': how many values and letters a reading holds, each counted each time it is reached (what is shared counts as often as it is met; a slice's spare places count too). A statement '..UptoSaid' is the law's where the arguments, and the package variables that the reading takes, are together of bulk at most 1048576: NARROWER than '..Said'. Prove '..Said' where nothing that the law and all that it calls make is longer than what came in: it says more and counts as full. Else prove '..UptoSaid'. A law counts once. -/
mutual
def uptoBulk {H : Type} : DataW H → Nat
  | .lit (.string bytes) => bytes.length + 1
  | .lit _ => 1
  | .nil => 1
  | .ptr d => uptoBulk d + 1
  | .slice elems spare => uptoBulkAll elems + uptoBulkAll spare + 1
  | .agg parts => uptoBulkAll parts + 1
  | .iface _ d => uptoBulk d + 1
  | .map entries => uptoBulkEntries entries + 1
  | .held _ => 1
def uptoBulkAll {H : Type} : List (DataW H) → Nat
  | [] => 0
  | d :: r => uptoBulk d + uptoBulkAll r
def uptoBulkEntries {H : Type} : List (Lit × DataW H) → Nat
  | [] => 0
  | x :: r => uptoBulkEntry x + uptoBulkEntries r
def uptoBulkEntry {H : Type} : Lit × DataW H → Nat
  | (.string bytes, d) => bytes.length + uptoBulk d + 1
  | (_, d) => uptoBulk d + 1
 end
def uptoSmall : (H : Type) → List (DataW H) → Bool := fun _ ds => decide (uptoBulkAll ds ≤ 1048576)
def OpenSpec.upto (s : _root_.Go.ChangeSpec) : _root_.Go.OpenSpec := { _root_.Go.OpenSpec.ofChange s with cond := some uptoSmall }

/-- 'bastionlaw03.SipSums', WHERE WHAT IT READS IS OF BULK AT MOST 1048576: true; the input reads as it did. -/
def sipSumsUptoRow : OpenClaim := { program := "ytidkfjgelcpieaa", sum := "03701b35fbe6b671ba1f3bf5047583d21467296521b333b528db31ed37a77a39", func := "bastion/bastionlaw03.SipSums", spec := "sipSums", unfollowed := true, recurses := true, apart := false, narrowed := true }
def SipSumsUptoSaid : Prop := sipSumsUptoRow.holds Try.pinned (OpenSpec.upto sipSumsSpec)

/-- 'bastionlaw03.SipParts', WHERE WHAT IT READS IS OF BULK AT MOST 1048576: true; the input reads as it did. -/
def sipPartsUptoRow : OpenClaim := { program := "ytidkfjgelcpieaa", sum := "03701b35fbe6b671ba1f3bf5047583d21467296521b333b528db31ed37a77a39", func := "bastion/bastionlaw03.SipParts", spec := "sipParts", unfollowed := true, recurses := true, apart := false, narrowed := true }
def SipPartsUptoSaid : Prop := sipPartsUptoRow.holds Try.pinned (OpenSpec.upto sipPartsSpec)

/-- 'bastionlaw03.SipRounds', WHERE WHAT IT READS IS OF BULK AT MOST 1048576: true; the input reads as it did. -/
def sipRoundsUptoRow : OpenClaim := { program := "ytidkfjgelcpieaa", sum := "03701b35fbe6b671ba1f3bf5047583d21467296521b333b528db31ed37a77a39", func := "bastion/bastionlaw03.SipRounds", spec := "sipRounds", unfollowed := true, recurses := true, apart := false, narrowed := true }
def SipRoundsUptoSaid : Prop := sipRoundsUptoRow.holds Try.pinned (OpenSpec.upto sipRoundsSpec)

/-- 'bastionlaw03.SipSame', WHERE WHAT IT READS IS OF BULK AT MOST 1048576: true; the input reads as it did. -/
def sipSameUptoRow : OpenClaim := { program := "ytidkfjgelcpieaa", sum := "03701b35fbe6b671ba1f3bf5047583d21467296521b333b528db31ed37a77a39", func := "bastion/bastionlaw03.SipSame", spec := "sipSame", unfollowed := true, recurses := true, apart := false, narrowed := true }
def SipSameUptoSaid : Prop := sipSameUptoRow.holds Try.pinned (OpenSpec.upto sipSameSpec)

/-- 'bastionlaw04.MacMarks', WHERE WHAT IT READS IS OF BULK AT MOST 1048576: true; the input reads as it did. -/
def macMarksUptoRow : OpenClaim := { program := "ytidkfjgelcpieaa", sum := "03701b35fbe6b671ba1f3bf5047583d21467296521b333b528db31ed37a77a39", func := "bastion/bastionlaw04.MacMarks", spec := "macMarks", unfollowed := true, recurses := true, apart := false, narrowed := true }
def MacMarksUptoSaid : Prop := macMarksUptoRow.holds Try.pinned (OpenSpec.upto macMarksSpec)

/-- 'bastionlaw04.MacIdeal', WHERE WHAT IT READS IS OF BULK AT MOST 1048576: true; the input reads as it did. -/
def macIdealUptoRow : OpenClaim := { program := "ytidkfjgelcpieaa", sum := "03701b35fbe6b671ba1f3bf5047583d21467296521b333b528db31ed37a77a39", func := "bastion/bastionlaw04.MacIdeal", spec := "macIdeal", unfollowed := true, recurses := true, apart := false, narrowed := true }
def MacIdealUptoSaid : Prop := macIdealUptoRow.holds Try.pinned (OpenSpec.upto macIdealSpec)

/-- 'bastionlaw04.MacTold', WHERE WHAT IT READS IS OF BULK AT MOST 1048576: true; the input reads as it did. -/
def macToldUptoRow : OpenClaim := { program := "ytidkfjgelcpieaa", sum := "03701b35fbe6b671ba1f3bf5047583d21467296521b333b528db31ed37a77a39", func := "bastion/bastionlaw04.MacTold", spec := "macTold", unfollowed := true, recurses := true, apart := false, narrowed := true }
def MacToldUptoSaid : Prop := macToldUptoRow.holds Try.pinned (OpenSpec.upto macToldSpec)

/-- 'bastionlaw04.MacCalls', WHERE WHAT IT READS IS OF BULK AT MOST 1048576: true; the input reads as it did. -/
def macCallsUptoRow : OpenClaim := { program := "ytidkfjgelcpieaa", sum := "03701b35fbe6b671ba1f3bf5047583d21467296521b333b528db31ed37a77a39", func := "bastion/bastionlaw04.MacCalls", spec := "macCalls", unfollowed := true, recurses := true, apart := false, narrowed := true }
def MacCallsUptoSaid : Prop := macCallsUptoRow.holds Try.pinned (OpenSpec.upto macCallsSpec)

/-- 'bastionlaw04.MacTwo', WHERE WHAT IT READS IS OF BULK AT MOST 1048576: true; the input reads as it did. -/
def macTwoUptoRow : OpenClaim := { program := "ytidkfjgelcpieaa", sum := "03701b35fbe6b671ba1f3bf5047583d21467296521b333b528db31ed37a77a39", func := "bastion/bastionlaw04.MacTwo", spec := "macTwo", unfollowed := true, recurses := true, apart := false, narrowed := true }
def MacTwoUptoSaid : Prop := macTwoUptoRow.holds Try.pinned (OpenSpec.upto macTwoSpec)

end Rows
end Go.Proofs.Ytidkfjgelcpieaa
