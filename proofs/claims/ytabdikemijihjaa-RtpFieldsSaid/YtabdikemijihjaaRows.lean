/-
  No cell of these rows narrows 'for every input' (looked for: loops, veiled, ifaces, maps, wideKeys, modest, calm, conditions, laid).
  DERIVED. THE GIVEN ROWS OF THIS SEAT. 8 by the template 'for every input the law returns true; each argument reads behind the call as it read before'; 0 by the template 'total and deterministic' (their statements: YtabdikemijihjaaTotals.lean).
  GIVEN WITH THE SEED: the statements are not yours to turn. If you find one false, say at which input.
  Laid BY PROGRAM, IN A SANDBOX (cutbox-rows.mjs): the forced cells as the released guide's own fill.sh prints them over the translation cbfbd367693b5f0e… (all of the seat's roots in one cut). By AI agents, Wed Nov 11 2026. No macro, syntax, notation, axiom, sorry.
-/
import Derived.Test.YtabdikemijihjaaChecked
import GoSem.Claim
import GoSem.ClaimJoined
import GoSem.ClaimMapViews
import Derived.JoinedTies
import Derived.KernelRfl
namespace Go.Proofs.Ytabdikemijihjaa
/- THE CELL 'sum', in the pinned program and in every row, IS THE sha256 OF THE DUMP (.gsa) THAT YtabdikemijihjaaProg.lean LOADS. Nothing in Lean hashes anything: it is a label: what it is worth is what the hold of that sum in a sandbox is worth. -/
noncomputable def Try.pinned : Pinned := { name := "ytabdikemijihjaa", sum := "cbfbd367693b5f0ef816cab50c5d2f0f5d84ab406e960dc543b7ee1a6ccad043", checked := Try.checked }
namespace Rows
def none {H : Type} : Left H := { results := [], args := [] }

/-- 'antiphonlaw03.RtpIs': WHATEVER THE INPUT: true; the input reads as it did. -/
def rtpIsSpec : ChangeSpec := { name := "rtpIs", fn := fun _ => fun
  | [d1, d2, d3] => { results := [.lit (.bool true)], args := [d1, d2, d3] }
  | _ => none }
def rtpIsRow : OpenClaim := { program := "ytabdikemijihjaa", sum := "cbfbd367693b5f0ef816cab50c5d2f0f5d84ab406e960dc543b7ee1a6ccad043", func := "antiphon/antiphonlaw03.RtpIs", spec := "rtpIs", apart := false }
def RtpIsSaid : Prop := rtpIsRow.holds Try.pinned (OpenSpec.ofChange rtpIsSpec)

/-- ITS FALSE NEIGHBOUR: 'it returns false'. Refute it at one input. -/
def rtpIsWrong : ChangeSpec := { name := "rtpIs", fn := fun _ => fun
  | [d1, d2, d3] => { results := [.lit (.bool false)], args := [d1, d2, d3] }
  | _ => none }
def RtpIsWrongFalsely : Prop := rtpIsRow.holds Try.pinned (OpenSpec.ofChange rtpIsWrong)

/-- 'antiphonlaw04.Vp8Reads': WHATEVER THE INPUT: true; the input reads as it did. -/
def vp8ReadsSpec : ChangeSpec := { name := "vp8Reads", fn := fun _ => fun
  | [d] => { results := [.lit (.bool true)], args := [d] }
  | _ => none }
def vp8ReadsRow : OpenClaim := { program := "ytabdikemijihjaa", sum := "cbfbd367693b5f0ef816cab50c5d2f0f5d84ab406e960dc543b7ee1a6ccad043", func := "antiphon/antiphonlaw04.Vp8Reads", spec := "vp8Reads", inPlace := ["internal/abi.NoEscape"], apart := false }
def Vp8ReadsSaid : Prop := vp8ReadsRow.holds Try.pinned (OpenSpec.ofChange vp8ReadsSpec)

/-- ITS FALSE NEIGHBOUR: 'it returns false'. Refute it at one input. -/
def vp8ReadsWrong : ChangeSpec := { name := "vp8Reads", fn := fun _ => fun
  | [d] => { results := [.lit (.bool false)], args := [d] }
  | _ => none }
def Vp8ReadsWrongFalsely : Prop := vp8ReadsRow.holds Try.pinned (OpenSpec.ofChange vp8ReadsWrong)

/-- 'antiphonlaw04.Vp8Cut': WHATEVER THE INPUT: true; the input reads as it did. -/
def vp8CutSpec : ChangeSpec := { name := "vp8Cut", fn := fun _ => fun
  | [d1, d2] => { results := [.lit (.bool true)], args := [d1, d2] }
  | _ => none }
def vp8CutRow : OpenClaim := { program := "ytabdikemijihjaa", sum := "cbfbd367693b5f0ef816cab50c5d2f0f5d84ab406e960dc543b7ee1a6ccad043", func := "antiphon/antiphonlaw04.Vp8Cut", spec := "vp8Cut", inPlace := ["internal/abi.NoEscape"], apart := false }
def Vp8CutSaid : Prop := vp8CutRow.holds Try.pinned (OpenSpec.ofChange vp8CutSpec)

/-- ITS FALSE NEIGHBOUR: 'it returns false'. Refute it at one input. -/
def vp8CutWrong : ChangeSpec := { name := "vp8Cut", fn := fun _ => fun
  | [d1, d2] => { results := [.lit (.bool false)], args := [d1, d2] }
  | _ => none }
def Vp8CutWrongFalsely : Prop := vp8CutRow.holds Try.pinned (OpenSpec.ofChange vp8CutWrong)

/-- 'antiphonlaw04.Vp8With': WHATEVER THE INPUT: true; the input reads as it did. -/
def vp8WithSpec : ChangeSpec := { name := "vp8With", fn := fun _ => fun
  | [d1, d2, d3, d4] => { results := [.lit (.bool true)], args := [d1, d2, d3, d4] }
  | _ => none }
def vp8WithRow : OpenClaim := { program := "ytabdikemijihjaa", sum := "cbfbd367693b5f0ef816cab50c5d2f0f5d84ab406e960dc543b7ee1a6ccad043", func := "antiphon/antiphonlaw04.Vp8With", spec := "vp8With", inPlace := ["internal/abi.NoEscape"], apart := false }
def Vp8WithSaid : Prop := vp8WithRow.holds Try.pinned (OpenSpec.ofChange vp8WithSpec)

/-- ITS FALSE NEIGHBOUR: 'it returns false'. Refute it at one input. -/
def vp8WithWrong : ChangeSpec := { name := "vp8With", fn := fun _ => fun
  | [d1, d2, d3, d4] => { results := [.lit (.bool false)], args := [d1, d2, d3, d4] }
  | _ => none }
def Vp8WithWrongFalsely : Prop := vp8WithRow.holds Try.pinned (OpenSpec.ofChange vp8WithWrong)

/-- 'antiphonlaw03.RtpReads': WHATEVER THE INPUT: true; the input reads as it did. -/
def rtpReadsSpec : ChangeSpec := { name := "rtpReads", fn := fun _ => fun
  | [d] => { results := [.lit (.bool true)], args := [d] }
  | _ => none }
def rtpReadsRow : OpenClaim := { program := "ytabdikemijihjaa", sum := "cbfbd367693b5f0ef816cab50c5d2f0f5d84ab406e960dc543b7ee1a6ccad043", func := "antiphon/antiphonlaw03.RtpReads", spec := "rtpReads", inPlace := ["internal/abi.NoEscape"], apart := false }
def RtpReadsSaid : Prop := rtpReadsRow.holds Try.pinned (OpenSpec.ofChange rtpReadsSpec)

/-- ITS FALSE NEIGHBOUR: 'it returns false'. Refute it at one input. -/
def rtpReadsWrong : ChangeSpec := { name := "rtpReads", fn := fun _ => fun
  | [d] => { results := [.lit (.bool false)], args := [d] }
  | _ => none }
def RtpReadsWrongFalsely : Prop := rtpReadsRow.holds Try.pinned (OpenSpec.ofChange rtpReadsWrong)

/-- 'antiphonlaw03.RtpChecks': WHATEVER THE INPUT: true; the input reads as it did. -/
def rtpChecksSpec : ChangeSpec := { name := "rtpChecks", fn := fun _ => fun
  | [d] => { results := [.lit (.bool true)], args := [d] }
  | _ => none }
def rtpChecksRow : OpenClaim := { program := "ytabdikemijihjaa", sum := "cbfbd367693b5f0ef816cab50c5d2f0f5d84ab406e960dc543b7ee1a6ccad043", func := "antiphon/antiphonlaw03.RtpChecks", spec := "rtpChecks", inPlace := ["internal/abi.NoEscape"], apart := false }
def RtpChecksSaid : Prop := rtpChecksRow.holds Try.pinned (OpenSpec.ofChange rtpChecksSpec)

/-- ITS FALSE NEIGHBOUR: 'it returns false'. Refute it at one input. -/
def rtpChecksWrong : ChangeSpec := { name := "rtpChecks", fn := fun _ => fun
  | [d] => { results := [.lit (.bool false)], args := [d] }
  | _ => none }
def RtpChecksWrongFalsely : Prop := rtpChecksRow.holds Try.pinned (OpenSpec.ofChange rtpChecksWrong)

/-- 'antiphonlaw03.RtpCut': WHATEVER THE INPUT: true; the input reads as it did. -/
def rtpCutSpec : ChangeSpec := { name := "rtpCut", fn := fun _ => fun
  | [d1, d2] => { results := [.lit (.bool true)], args := [d1, d2] }
  | _ => none }
def rtpCutRow : OpenClaim := { program := "ytabdikemijihjaa", sum := "cbfbd367693b5f0ef816cab50c5d2f0f5d84ab406e960dc543b7ee1a6ccad043", func := "antiphon/antiphonlaw03.RtpCut", spec := "rtpCut", inPlace := ["internal/abi.NoEscape"], apart := false }
def RtpCutSaid : Prop := rtpCutRow.holds Try.pinned (OpenSpec.ofChange rtpCutSpec)

/-- ITS FALSE NEIGHBOUR: 'it returns false'. Refute it at one input. -/
def rtpCutWrong : ChangeSpec := { name := "rtpCut", fn := fun _ => fun
  | [d1, d2] => { results := [.lit (.bool false)], args := [d1, d2] }
  | _ => none }
def RtpCutWrongFalsely : Prop := rtpCutRow.holds Try.pinned (OpenSpec.ofChange rtpCutWrong)

/-- 'antiphonlaw03.RtpFields': WHATEVER THE INPUT: true; the input reads as it did. -/
def rtpFieldsSpec : ChangeSpec := { name := "rtpFields", fn := fun _ => fun
  | [d1, d2, d3, d4, d5] => { results := [.lit (.bool true)], args := [d1, d2, d3, d4, d5] }
  | _ => none }
def rtpFieldsRow : OpenClaim := { program := "ytabdikemijihjaa", sum := "cbfbd367693b5f0ef816cab50c5d2f0f5d84ab406e960dc543b7ee1a6ccad043", func := "antiphon/antiphonlaw03.RtpFields", spec := "rtpFields", inPlace := ["internal/abi.NoEscape"], apart := false }
def RtpFieldsSaid : Prop := rtpFieldsRow.holds Try.pinned (OpenSpec.ofChange rtpFieldsSpec)

/-- ITS FALSE NEIGHBOUR: 'it returns false'. Refute it at one input. -/
def rtpFieldsWrong : ChangeSpec := { name := "rtpFields", fn := fun _ => fun
  | [d1, d2, d3, d4, d5] => { results := [.lit (.bool false)], args := [d1, d2, d3, d4, d5] }
  | _ => none }
def RtpFieldsWrongFalsely : Prop := rtpFieldsRow.holds Try.pinned (OpenSpec.ofChange rtpFieldsWrong)

/- THE SECOND FORM. 'bulk': how many values and letters a reading holds, each counted each time it is reached (what is shared counts as often as it is met; a slice's spare places count too). A statement '..UptoSaid' is the law's where the arguments, and the package variables that the reading takes, are together of bulk at most 1048576: NARROWER than '..Said'. Prove '..Said' where nothing that the law and all that it calls make is longer than what came in: it says more and counts as full. Else prove '..UptoSaid'. A law counts once. -/
mutual
def uptoBulk {H : Type} : DataW H → Nat
  | .lit (.string bytes) => bytes.length + 1
  | .lit _ => 1
  | .nil => 1
  | .ptr d => uptoBulk d + 1
  | .slice elems spare => uptoBulkAll elems + uptoBulkAll spare + 1
  | .agg parts => uptoBulkAll parts + 1
  | .iface _ d => uptoBulk d + 1
  | .map entries => uptoBulkEntries entries + 1
  | .held _ => 1
def uptoBulkAll {H : Type} : List (DataW H) → Nat
  | [] => 0
  | d :: r => uptoBulk d + uptoBulkAll r
def uptoBulkEntries {H : Type} : List (Lit × DataW H) → Nat
  | [] => 0
  | x :: r => uptoBulkEntry x + uptoBulkEntries r
def uptoBulkEntry {H : Type} : Lit × DataW H → Nat
  | (.string bytes, d) => bytes.length + uptoBulk d + 1
  | (_, d) => uptoBulk d + 1
 end
def uptoSmall : (H : Type) → List (DataW H) → Bool := fun _ ds => decide (uptoBulkAll ds ≤ 1048576)
def OpenSpec.upto (s : _root_.Go.ChangeSpec) : _root_.Go.OpenSpec := { _root_.Go.OpenSpec.ofChange s with cond := some uptoSmall }

/-- 'antiphonlaw03.RtpIs', WHERE WHAT IT READS IS OF BULK AT MOST 1048576: true; the input reads as it did. -/
def rtpIsUptoRow : OpenClaim := { program := "ytabdikemijihjaa", sum := "cbfbd367693b5f0ef816cab50c5d2f0f5d84ab406e960dc543b7ee1a6ccad043", func := "antiphon/antiphonlaw03.RtpIs", spec := "rtpIs", apart := false, narrowed := true }
def RtpIsUptoSaid : Prop := rtpIsUptoRow.holds Try.pinned (OpenSpec.upto rtpIsSpec)

/-- 'antiphonlaw04.Vp8Reads', WHERE WHAT IT READS IS OF BULK AT MOST 1048576: true; the input reads as it did. -/
def vp8ReadsUptoRow : OpenClaim := { program := "ytabdikemijihjaa", sum := "cbfbd367693b5f0ef816cab50c5d2f0f5d84ab406e960dc543b7ee1a6ccad043", func := "antiphon/antiphonlaw04.Vp8Reads", spec := "vp8Reads", inPlace := ["internal/abi.NoEscape"], apart := false, narrowed := true }
def Vp8ReadsUptoSaid : Prop := vp8ReadsUptoRow.holds Try.pinned (OpenSpec.upto vp8ReadsSpec)

/-- 'antiphonlaw04.Vp8Cut', WHERE WHAT IT READS IS OF BULK AT MOST 1048576: true; the input reads as it did. -/
def vp8CutUptoRow : OpenClaim := { program := "ytabdikemijihjaa", sum := "cbfbd367693b5f0ef816cab50c5d2f0f5d84ab406e960dc543b7ee1a6ccad043", func := "antiphon/antiphonlaw04.Vp8Cut", spec := "vp8Cut", inPlace := ["internal/abi.NoEscape"], apart := false, narrowed := true }
def Vp8CutUptoSaid : Prop := vp8CutUptoRow.holds Try.pinned (OpenSpec.upto vp8CutSpec)

/-- 'antiphonlaw04.Vp8With', WHERE WHAT IT READS IS OF BULK AT MOST 1048576: true; the input reads as it did. -/
def vp8WithUptoRow : OpenClaim := { program := "ytabdikemijihjaa", sum := "cbfbd367693b5f0ef816cab50c5d2f0f5d84ab406e960dc543b7ee1a6ccad043", func := "antiphon/antiphonlaw04.Vp8With", spec := "vp8With", inPlace := ["internal/abi.NoEscape"], apart := false, narrowed := true }
def Vp8WithUptoSaid : Prop := vp8WithUptoRow.holds Try.pinned (OpenSpec.upto vp8WithSpec)

/-- 'antiphonlaw03.RtpReads', WHERE WHAT IT READS IS OF BULK AT MOST 1048576: true; the input reads as it did. -/
def rtpReadsUptoRow : OpenClaim := { program := "ytabdikemijihjaa", sum := "cbfbd367693b5f0ef816cab50c5d2f0f5d84ab406e960dc543b7ee1a6ccad043", func := "antiphon/antiphonlaw03.RtpReads", spec := "rtpReads", inPlace := ["internal/abi.NoEscape"], apart := false, narrowed := true }
def RtpReadsUptoSaid : Prop := rtpReadsUptoRow.holds Try.pinned (OpenSpec.upto rtpReadsSpec)

/-- 'antiphonlaw03.RtpChecks', WHERE WHAT IT READS IS OF BULK AT MOST 1048576: true; the input reads as it did. -/
def rtpChecksUptoRow : OpenClaim := { program := "ytabdikemijihjaa", sum := "cbfbd367693b5f0ef816cab50c5d2f0f5d84ab406e960dc543b7ee1a6ccad043", func := "antiphon/antiphonlaw03.RtpChecks", spec := "rtpChecks", inPlace := ["internal/abi.NoEscape"], apart := false, narrowed := true }
def RtpChecksUptoSaid : Prop := rtpChecksUptoRow.holds Try.pinned (OpenSpec.upto rtpChecksSpec)

/-- 'antiphonlaw03.RtpCut', WHERE WHAT IT READS IS OF BULK AT MOST 1048576: true; the input reads as it did. -/
def rtpCutUptoRow : OpenClaim := { program := "ytabdikemijihjaa", sum := "cbfbd367693b5f0ef816cab50c5d2f0f5d84ab406e960dc543b7ee1a6ccad043", func := "antiphon/antiphonlaw03.RtpCut", spec := "rtpCut", inPlace := ["internal/abi.NoEscape"], apart := false, narrowed := true }
def RtpCutUptoSaid : Prop := rtpCutUptoRow.holds Try.pinned (OpenSpec.upto rtpCutSpec)

/-- 'antiphonlaw03.RtpFields', WHERE WHAT IT READS IS OF BULK AT MOST 1048576: true; the input reads as it did. -/
def rtpFieldsUptoRow : OpenClaim := { program := "ytabdikemijihjaa", sum := "cbfbd367693b5f0ef816cab50c5d2f0f5d84ab406e960dc543b7ee1a6ccad043", func := "antiphon/antiphonlaw03.RtpFields", spec := "rtpFields", inPlace := ["internal/abi.NoEscape"], apart := false, narrowed := true }
def RtpFieldsUptoSaid : Prop := rtpFieldsUptoRow.holds Try.pinned (OpenSpec.upto rtpFieldsSpec)

end Rows
end Go.Proofs.Ytabdikemijihjaa
