/-
  No cell of these rows narrows 'for every input' (looked for: loops, veiled, ifaces, maps, wideKeys, modest, calm, conditions, laid).
  DERIVED. THE GIVEN ROWS OF THIS SEAT. 8 by the template 'for every input the law returns true; each argument reads behind the call as it read before'; 0 by the template 'total and deterministic' (their statements: YtnjicnadlhfocaaTotals.lean).
  GIVEN WITH THE SEED: the statements are not yours to turn. If you find one false, say at which input.
  Laid BY PROGRAM, IN A SANDBOX (cutbox-rows.mjs): the forced cells as the released guide's own fill.sh prints them over the translation 175a997d83dc557c… (all of the seat's roots in one cut). By AI agents, Wed Nov 11 2026. No macro, syntax, notation, axiom, sorry.
-/
import Derived.Test.YtnjicnadlhfocaaChecked
import GoSem.Claim
import GoSem.ClaimJoined
import GoSem.ClaimMapViews
import Derived.JoinedTies
import Derived.KernelRfl
namespace Go.Proofs.Ytnjicnadlhfocaa
/- THE CELL 'sum', in the pinned program and in every row, IS THE sha256 OF THE DUMP (.gsa) THAT YtnjicnadlhfocaaProg.lean LOADS. Nothing in Lean hashes anything: it is a label: what it is worth is what the hold of that sum in a sandbox is worth. -/
noncomputable def Try.pinned : Pinned := { name := "ytnjicnadlhfocaa", sum := "175a997d83dc557c83969d8aae88c840022efe826c71b4f66e7acc1db0787e52", checked := Try.checked }
namespace Rows
def none {H : Type} : Left H := { results := [], args := [] }

/-- 'antiphonlaw17.ReportReads': WHATEVER THE INPUT: true; the input reads as it did. -/
def reportReadsSpec : ChangeSpec := { name := "reportReads", fn := fun _ => fun
  | [d1, d2] => { results := [.lit (.bool true)], args := [d1, d2] }
  | _ => none }
def reportReadsRow : OpenClaim := { program := "ytnjicnadlhfocaa", sum := "175a997d83dc557c83969d8aae88c840022efe826c71b4f66e7acc1db0787e52", func := "antiphon/antiphonlaw17.ReportReads", spec := "reportReads", apart := false }
def ReportReadsSaid : Prop := reportReadsRow.holds Try.pinned (OpenSpec.ofChange reportReadsSpec)

/-- ITS FALSE NEIGHBOUR: 'it returns false'. Refute it at one input. -/
def reportReadsWrong : ChangeSpec := { name := "reportReads", fn := fun _ => fun
  | [d1, d2] => { results := [.lit (.bool false)], args := [d1, d2] }
  | _ => none }
def ReportReadsWrongFalsely : Prop := reportReadsRow.holds Try.pinned (OpenSpec.ofChange reportReadsWrong)

/-- 'antiphonlaw17.ReportClock': WHATEVER THE INPUT: true; the input reads as it did. -/
def reportClockSpec : ChangeSpec := { name := "reportClock", fn := fun _ => fun
  | [d1, d2, d3, d4, d5, d6] => { results := [.lit (.bool true)], args := [d1, d2, d3, d4, d5, d6] }
  | _ => none }
def reportClockRow : OpenClaim := { program := "ytnjicnadlhfocaa", sum := "175a997d83dc557c83969d8aae88c840022efe826c71b4f66e7acc1db0787e52", func := "antiphon/antiphonlaw17.ReportClock", spec := "reportClock", apart := false }
def ReportClockSaid : Prop := reportClockRow.holds Try.pinned (OpenSpec.ofChange reportClockSpec)

/-- ITS FALSE NEIGHBOUR: 'it returns false'. Refute it at one input. -/
def reportClockWrong : ChangeSpec := { name := "reportClock", fn := fun _ => fun
  | [d1, d2, d3, d4, d5, d6] => { results := [.lit (.bool false)], args := [d1, d2, d3, d4, d5, d6] }
  | _ => none }
def ReportClockWrongFalsely : Prop := reportClockRow.holds Try.pinned (OpenSpec.ofChange reportClockWrong)

/-- 'antiphonlaw17.ReportAsked': WHATEVER THE INPUT: true; the input reads as it did. -/
def reportAskedSpec : ChangeSpec := { name := "reportAsked", fn := fun _ => fun
  | [d1, d2, d3, d4] => { results := [.lit (.bool true)], args := [d1, d2, d3, d4] }
  | _ => none }
def reportAskedRow : OpenClaim := { program := "ytnjicnadlhfocaa", sum := "175a997d83dc557c83969d8aae88c840022efe826c71b4f66e7acc1db0787e52", func := "antiphon/antiphonlaw17.ReportAsked", spec := "reportAsked", apart := false }
def ReportAskedSaid : Prop := reportAskedRow.holds Try.pinned (OpenSpec.ofChange reportAskedSpec)

/-- ITS FALSE NEIGHBOUR: 'it returns false'. Refute it at one input. -/
def reportAskedWrong : ChangeSpec := { name := "reportAsked", fn := fun _ => fun
  | [d1, d2, d3, d4] => { results := [.lit (.bool false)], args := [d1, d2, d3, d4] }
  | _ => none }
def ReportAskedWrongFalsely : Prop := reportAskedRow.holds Try.pinned (OpenSpec.ofChange reportAskedWrong)

/-- 'antiphonlaw17.ReportServes': WHATEVER THE INPUT: true; the input reads as it did. -/
def reportServesSpec : ChangeSpec := { name := "reportServes", fn := fun _ => fun
  | [d1, d2, d3, d4, d5] => { results := [.lit (.bool true)], args := [d1, d2, d3, d4, d5] }
  | _ => none }
def reportServesRow : OpenClaim := { program := "ytnjicnadlhfocaa", sum := "175a997d83dc557c83969d8aae88c840022efe826c71b4f66e7acc1db0787e52", func := "antiphon/antiphonlaw17.ReportServes", spec := "reportServes", apart := false }
def ReportServesSaid : Prop := reportServesRow.holds Try.pinned (OpenSpec.ofChange reportServesSpec)

/-- ITS FALSE NEIGHBOUR: 'it returns false'. Refute it at one input. -/
def reportServesWrong : ChangeSpec := { name := "reportServes", fn := fun _ => fun
  | [d1, d2, d3, d4, d5] => { results := [.lit (.bool false)], args := [d1, d2, d3, d4, d5] }
  | _ => none }
def ReportServesWrongFalsely : Prop := reportServesRow.holds Try.pinned (OpenSpec.ofChange reportServesWrong)

/-- 'antiphonlaw15.RewriteKeeps': WHATEVER THE INPUT: true; the input reads as it did. -/
def rewriteKeepsSpec : ChangeSpec := { name := "rewriteKeeps", fn := fun _ => fun
  | [d] => { results := [.lit (.bool true)], args := [d] }
  | _ => none }
def rewriteKeepsRow : OpenClaim := { program := "ytnjicnadlhfocaa", sum := "175a997d83dc557c83969d8aae88c840022efe826c71b4f66e7acc1db0787e52", func := "antiphon/antiphonlaw15.RewriteKeeps", spec := "rewriteKeeps", inPlace := ["internal/abi.NoEscape"], apart := false }
def RewriteKeepsSaid : Prop := rewriteKeepsRow.holds Try.pinned (OpenSpec.ofChange rewriteKeepsSpec)

/-- ITS FALSE NEIGHBOUR: 'it returns false'. Refute it at one input. -/
def rewriteKeepsWrong : ChangeSpec := { name := "rewriteKeeps", fn := fun _ => fun
  | [d] => { results := [.lit (.bool false)], args := [d] }
  | _ => none }
def RewriteKeepsWrongFalsely : Prop := rewriteKeepsRow.holds Try.pinned (OpenSpec.ofChange rewriteKeepsWrong)

/-- 'antiphonlaw15.RewriteTimes': WHATEVER THE INPUT: true; the input reads as it did. -/
def rewriteTimesSpec : ChangeSpec := { name := "rewriteTimes", fn := fun _ => fun
  | [d1, d2] => { results := [.lit (.bool true)], args := [d1, d2] }
  | _ => none }
def rewriteTimesRow : OpenClaim := { program := "ytnjicnadlhfocaa", sum := "175a997d83dc557c83969d8aae88c840022efe826c71b4f66e7acc1db0787e52", func := "antiphon/antiphonlaw15.RewriteTimes", spec := "rewriteTimes", inPlace := ["internal/abi.NoEscape"], apart := false }
def RewriteTimesSaid : Prop := rewriteTimesRow.holds Try.pinned (OpenSpec.ofChange rewriteTimesSpec)

/-- ITS FALSE NEIGHBOUR: 'it returns false'. Refute it at one input. -/
def rewriteTimesWrong : ChangeSpec := { name := "rewriteTimes", fn := fun _ => fun
  | [d1, d2] => { results := [.lit (.bool false)], args := [d1, d2] }
  | _ => none }
def RewriteTimesWrongFalsely : Prop := rewriteTimesRow.holds Try.pinned (OpenSpec.ofChange rewriteTimesWrong)

/-- 'antiphonlaw15.RewriteStream': WHATEVER THE INPUT: true; the input reads as it did. -/
def rewriteStreamSpec : ChangeSpec := { name := "rewriteStream", fn := fun _ => fun
  | [d1, d2] => { results := [.lit (.bool true)], args := [d1, d2] }
  | _ => none }
def rewriteStreamRow : OpenClaim := { program := "ytnjicnadlhfocaa", sum := "175a997d83dc557c83969d8aae88c840022efe826c71b4f66e7acc1db0787e52", func := "antiphon/antiphonlaw15.RewriteStream", spec := "rewriteStream", inPlace := ["internal/abi.NoEscape"], apart := false }
def RewriteStreamSaid : Prop := rewriteStreamRow.holds Try.pinned (OpenSpec.ofChange rewriteStreamSpec)

/-- ITS FALSE NEIGHBOUR: 'it returns false'. Refute it at one input. -/
def rewriteStreamWrong : ChangeSpec := { name := "rewriteStream", fn := fun _ => fun
  | [d1, d2] => { results := [.lit (.bool false)], args := [d1, d2] }
  | _ => none }
def RewriteStreamWrongFalsely : Prop := rewriteStreamRow.holds Try.pinned (OpenSpec.ofChange rewriteStreamWrong)

/-- 'antiphonlaw15.RewritePlays': WHATEVER THE INPUT: true; the input reads as it did. -/
def rewritePlaysSpec : ChangeSpec := { name := "rewritePlays", fn := fun _ => fun
  | [d1, d2, d3, d4, d5] => { results := [.lit (.bool true)], args := [d1, d2, d3, d4, d5] }
  | _ => none }
def rewritePlaysRow : OpenClaim := { program := "ytnjicnadlhfocaa", sum := "175a997d83dc557c83969d8aae88c840022efe826c71b4f66e7acc1db0787e52", func := "antiphon/antiphonlaw15.RewritePlays", spec := "rewritePlays", inPlace := ["internal/abi.NoEscape"], apart := false }
def RewritePlaysSaid : Prop := rewritePlaysRow.holds Try.pinned (OpenSpec.ofChange rewritePlaysSpec)

/-- ITS FALSE NEIGHBOUR: 'it returns false'. Refute it at one input. -/
def rewritePlaysWrong : ChangeSpec := { name := "rewritePlays", fn := fun _ => fun
  | [d1, d2, d3, d4, d5] => { results := [.lit (.bool false)], args := [d1, d2, d3, d4, d5] }
  | _ => none }
def RewritePlaysWrongFalsely : Prop := rewritePlaysRow.holds Try.pinned (OpenSpec.ofChange rewritePlaysWrong)

/- THE SECOND FORM. 'bulk': how many values and letters a reading holds, each counted each time it is reached (what is shared counts as often as it is met; a slice's spare places count too). A statement '..UptoSaid' is the law's where the arguments, and the package variables that the reading takes, are together of bulk at most 1048576: NARROWER than '..Said'. Prove '..Said' where nothing that the law and all that it calls make is longer than what came in: it says more and counts as full. Else prove '..UptoSaid'. A law counts once. -/
mutual
def uptoBulk {H : Type} : DataW H → Nat
  | .lit (.string bytes) => bytes.length + 1
  | .lit _ => 1
  | .nil => 1
  | .ptr d => uptoBulk d + 1
  | .slice elems spare => uptoBulkAll elems + uptoBulkAll spare + 1
  | .agg parts => uptoBulkAll parts + 1
  | .iface _ d => uptoBulk d + 1
  | .map entries => uptoBulkEntries entries + 1
  | .held _ => 1
def uptoBulkAll {H : Type} : List (DataW H) → Nat
  | [] => 0
  | d :: r => uptoBulk d + uptoBulkAll r
def uptoBulkEntries {H : Type} : List (Lit × DataW H) → Nat
  | [] => 0
  | x :: r => uptoBulkEntry x + uptoBulkEntries r
def uptoBulkEntry {H : Type} : Lit × DataW H → Nat
  | (.string bytes, d) => bytes.length + uptoBulk d + 1
  | (_, d) => uptoBulk d + 1
 end
def uptoSmall : (H : Type) → List (DataW H) → Bool := fun _ ds => decide (uptoBulkAll ds ≤ 1048576)
def OpenSpec.upto (s : _root_.Go.ChangeSpec) : _root_.Go.OpenSpec := { _root_.Go.OpenSpec.ofChange s with cond := some uptoSmall }

/-- 'antiphonlaw17.ReportReads', WHERE WHAT IT READS IS OF BULK AT MOST 1048576: true; the input reads as it did. -/
def reportReadsUptoRow : OpenClaim := { program := "ytnjicnadlhfocaa", sum := "175a997d83dc557c83969d8aae88c840022efe826c71b4f66e7acc1db0787e52", func := "antiphon/antiphonlaw17.ReportReads", spec := "reportReads", apart := false, narrowed := true }
def ReportReadsUptoSaid : Prop := reportReadsUptoRow.holds Try.pinned (OpenSpec.upto reportReadsSpec)

/-- 'antiphonlaw17.ReportClock', WHERE WHAT IT READS IS OF BULK AT MOST 1048576: true; the input reads as it did. -/
def reportClockUptoRow : OpenClaim := { program := "ytnjicnadlhfocaa", sum := "175a997d83dc557c83969d8aae88c840022efe826c71b4f66e7acc1db0787e52", func := "antiphon/antiphonlaw17.ReportClock", spec := "reportClock", apart := false, narrowed := true }
def ReportClockUptoSaid : Prop := reportClockUptoRow.holds Try.pinned (OpenSpec.upto reportClockSpec)

/-- 'antiphonlaw17.ReportAsked', WHERE WHAT IT READS IS OF BULK AT MOST 1048576: true; the input reads as it did. -/
def reportAskedUptoRow : OpenClaim := { program := "ytnjicnadlhfocaa", sum := "175a997d83dc557c83969d8aae88c840022efe826c71b4f66e7acc1db0787e52", func := "antiphon/antiphonlaw17.ReportAsked", spec := "reportAsked", apart := false, narrowed := true }
def ReportAskedUptoSaid : Prop := reportAskedUptoRow.holds Try.pinned (OpenSpec.upto reportAskedSpec)

/-- 'antiphonlaw17.ReportServes', WHERE WHAT IT READS IS OF BULK AT MOST 1048576: true; the input reads as it did. -/
def reportServesUptoRow : OpenClaim := { program := "ytnjicnadlhfocaa", sum := "175a997d83dc557c83969d8aae88c840022efe826c71b4f66e7acc1db0787e52", func := "antiphon/antiphonlaw17.ReportServes", spec := "reportServes", apart := false, narrowed := true }
def ReportServesUptoSaid : Prop := reportServesUptoRow.holds Try.pinned (OpenSpec.upto reportServesSpec)

/-- 'antiphonlaw15.RewriteKeeps', WHERE WHAT IT READS IS OF BULK AT MOST 1048576: true; the input reads as it did. -/
def rewriteKeepsUptoRow : OpenClaim := { program := "ytnjicnadlhfocaa", sum := "175a997d83dc557c83969d8aae88c840022efe826c71b4f66e7acc1db0787e52", func := "antiphon/antiphonlaw15.RewriteKeeps", spec := "rewriteKeeps", inPlace := ["internal/abi.NoEscape"], apart := false, narrowed := true }
def RewriteKeepsUptoSaid : Prop := rewriteKeepsUptoRow.holds Try.pinned (OpenSpec.upto rewriteKeepsSpec)

/-- 'antiphonlaw15.RewriteTimes', WHERE WHAT IT READS IS OF BULK AT MOST 1048576: true; the input reads as it did. -/
def rewriteTimesUptoRow : OpenClaim := { program := "ytnjicnadlhfocaa", sum := "175a997d83dc557c83969d8aae88c840022efe826c71b4f66e7acc1db0787e52", func := "antiphon/antiphonlaw15.RewriteTimes", spec := "rewriteTimes", inPlace := ["internal/abi.NoEscape"], apart := false, narrowed := true }
def RewriteTimesUptoSaid : Prop := rewriteTimesUptoRow.holds Try.pinned (OpenSpec.upto rewriteTimesSpec)

/-- 'antiphonlaw15.RewriteStream', WHERE WHAT IT READS IS OF BULK AT MOST 1048576: true; the input reads as it did. -/
def rewriteStreamUptoRow : OpenClaim := { program := "ytnjicnadlhfocaa", sum := "175a997d83dc557c83969d8aae88c840022efe826c71b4f66e7acc1db0787e52", func := "antiphon/antiphonlaw15.RewriteStream", spec := "rewriteStream", inPlace := ["internal/abi.NoEscape"], apart := false, narrowed := true }
def RewriteStreamUptoSaid : Prop := rewriteStreamUptoRow.holds Try.pinned (OpenSpec.upto rewriteStreamSpec)

/-- 'antiphonlaw15.RewritePlays', WHERE WHAT IT READS IS OF BULK AT MOST 1048576: true; the input reads as it did. -/
def rewritePlaysUptoRow : OpenClaim := { program := "ytnjicnadlhfocaa", sum := "175a997d83dc557c83969d8aae88c840022efe826c71b4f66e7acc1db0787e52", func := "antiphon/antiphonlaw15.RewritePlays", spec := "rewritePlays", inPlace := ["internal/abi.NoEscape"], apart := false, narrowed := true }
def RewritePlaysUptoSaid : Prop := rewritePlaysUptoRow.holds Try.pinned (OpenSpec.upto rewritePlaysSpec)

end Rows
end Go.Proofs.Ytnjicnadlhfocaa
