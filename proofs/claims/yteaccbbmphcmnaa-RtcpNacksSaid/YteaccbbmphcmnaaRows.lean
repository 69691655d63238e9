/-
  No cell of these rows narrows 'for every input' (looked for: loops, veiled, ifaces, maps, wideKeys, modest, calm, conditions, laid).
  DERIVED. THE GIVEN ROWS OF THIS SEAT. 5 by the template 'for every input the law returns true; each argument reads behind the call as it read before'; 0 by the template 'total and deterministic' (their statements: YteaccbbmphcmnaaTotals.lean).
  GIVEN WITH THE SEED: the statements are not yours to turn. If you find one false, say at which input.
  Laid BY PROGRAM, IN A SANDBOX (cutbox-rows.mjs): the forced cells as the released guide's own fill.sh prints them over the translation 4cdfd5eaa5faf484… (all of the seat's roots in one cut). By AI agents, Wed Nov 11 2026. No macro, syntax, notation, axiom, sorry.
-/
import Derived.Test.YteaccbbmphcmnaaChecked
import GoSem.Claim
import GoSem.ClaimJoined
import GoSem.ClaimMapViews
import Derived.JoinedTies
import Derived.KernelRfl
namespace Go.Proofs.Yteaccbbmphcmnaa
/- THE CELL 'sum', in the pinned program and in every row, IS THE sha256 OF THE DUMP (.gsa) THAT YteaccbbmphcmnaaProg.lean LOADS. Nothing in Lean hashes anything: it is a label: what it is worth is what the hold of that sum in a sandbox is worth. -/
noncomputable def Try.pinned : Pinned := { name := "yteaccbbmphcmnaa", sum := "4cdfd5eaa5faf4843a8ed0f9cefbf5a53bf86e4f77326e38b5bed90e8c08f9d4", checked := Try.checked }
namespace Rows
def none {H : Type} : Left H := { results := [], args := [] }

/-- 'antiphonlaw05.RtcpReads': WHATEVER THE INPUT: true; the input reads as it did. -/
def rtcpReadsSpec : ChangeSpec := { name := "rtcpReads", fn := fun _ => fun
  | [d] => { results := [.lit (.bool true)], args := [d] }
  | _ => none }
def rtcpReadsRow : OpenClaim := { program := "yteaccbbmphcmnaa", sum := "4cdfd5eaa5faf4843a8ed0f9cefbf5a53bf86e4f77326e38b5bed90e8c08f9d4", func := "antiphon/antiphonlaw05.RtcpReads", spec := "rtcpReads", inPlace := ["internal/abi.NoEscape"], unfollowed := true, recurses := true, apart := false }
def RtcpReadsSaid : Prop := rtcpReadsRow.holds Try.pinned (OpenSpec.ofChange rtcpReadsSpec)

/-- ITS FALSE NEIGHBOUR: 'it returns false'. Refute it at one input. -/
def rtcpReadsWrong : ChangeSpec := { name := "rtcpReads", fn := fun _ => fun
  | [d] => { results := [.lit (.bool false)], args := [d] }
  | _ => none }
def RtcpReadsWrongFalsely : Prop := rtcpReadsRow.holds Try.pinned (OpenSpec.ofChange rtcpReadsWrong)

/-- 'antiphonlaw05.RtcpNacks': WHATEVER THE INPUT: true; the input reads as it did. -/
def rtcpNacksSpec : ChangeSpec := { name := "rtcpNacks", fn := fun _ => fun
  | [d1, d2] => { results := [.lit (.bool true)], args := [d1, d2] }
  | _ => none }
def rtcpNacksRow : OpenClaim := { program := "yteaccbbmphcmnaa", sum := "4cdfd5eaa5faf4843a8ed0f9cefbf5a53bf86e4f77326e38b5bed90e8c08f9d4", func := "antiphon/antiphonlaw05.RtcpNacks", spec := "rtcpNacks", inPlace := ["internal/abi.NoEscape"], unfollowed := true, recurses := true, apart := false }
def RtcpNacksSaid : Prop := rtcpNacksRow.holds Try.pinned (OpenSpec.ofChange rtcpNacksSpec)

/-- ITS FALSE NEIGHBOUR: 'it returns false'. Refute it at one input. -/
def rtcpNacksWrong : ChangeSpec := { name := "rtcpNacks", fn := fun _ => fun
  | [d1, d2] => { results := [.lit (.bool false)], args := [d1, d2] }
  | _ => none }
def RtcpNacksWrongFalsely : Prop := rtcpNacksRow.holds Try.pinned (OpenSpec.ofChange rtcpNacksWrong)

/-- 'antiphonlaw05.RtcpTexts': WHATEVER THE INPUT: true; the input reads as it did. -/
def rtcpTextsSpec : ChangeSpec := { name := "rtcpTexts", fn := fun _ => fun
  | [d] => { results := [.lit (.bool true)], args := [d] }
  | _ => none }
def rtcpTextsRow : OpenClaim := { program := "yteaccbbmphcmnaa", sum := "4cdfd5eaa5faf4843a8ed0f9cefbf5a53bf86e4f77326e38b5bed90e8c08f9d4", func := "antiphon/antiphonlaw05.RtcpTexts", spec := "rtcpTexts", inPlace := ["internal/abi.NoEscape"], unfollowed := true, recurses := true, apart := false }
def RtcpTextsSaid : Prop := rtcpTextsRow.holds Try.pinned (OpenSpec.ofChange rtcpTextsSpec)

/-- ITS FALSE NEIGHBOUR: 'it returns false'. Refute it at one input. -/
def rtcpTextsWrong : ChangeSpec := { name := "rtcpTexts", fn := fun _ => fun
  | [d] => { results := [.lit (.bool false)], args := [d] }
  | _ => none }
def RtcpTextsWrongFalsely : Prop := rtcpTextsRow.holds Try.pinned (OpenSpec.ofChange rtcpTextsWrong)

/-- 'antiphonlaw05.RtcpChecks': WHATEVER THE INPUT: true; the input reads as it did. -/
def rtcpChecksSpec : ChangeSpec := { name := "rtcpChecks", fn := fun _ => fun
  | [d] => { results := [.lit (.bool true)], args := [d] }
  | _ => none }
def rtcpChecksRow : OpenClaim := { program := "yteaccbbmphcmnaa", sum := "4cdfd5eaa5faf4843a8ed0f9cefbf5a53bf86e4f77326e38b5bed90e8c08f9d4", func := "antiphon/antiphonlaw05.RtcpChecks", spec := "rtcpChecks", inPlace := ["internal/abi.NoEscape"], unfollowed := true, recurses := true, apart := false }
def RtcpChecksSaid : Prop := rtcpChecksRow.holds Try.pinned (OpenSpec.ofChange rtcpChecksSpec)

/-- ITS FALSE NEIGHBOUR: 'it returns false'. Refute it at one input. -/
def rtcpChecksWrong : ChangeSpec := { name := "rtcpChecks", fn := fun _ => fun
  | [d] => { results := [.lit (.bool false)], args := [d] }
  | _ => none }
def RtcpChecksWrongFalsely : Prop := rtcpChecksRow.holds Try.pinned (OpenSpec.ofChange rtcpChecksWrong)

/-- 'antiphonlaw05.RtcpParts': WHATEVER THE INPUT: true; the input reads as it did. -/
def rtcpPartsSpec : ChangeSpec := { name := "rtcpParts", fn := fun _ => fun
  | [d1, d2, d3] => { results := [.lit (.bool true)], args := [d1, d2, d3] }
  | _ => none }
def rtcpPartsRow : OpenClaim := { program := "yteaccbbmphcmnaa", sum := "4cdfd5eaa5faf4843a8ed0f9cefbf5a53bf86e4f77326e38b5bed90e8c08f9d4", func := "antiphon/antiphonlaw05.RtcpParts", spec := "rtcpParts", inPlace := ["internal/abi.NoEscape"], unfollowed := true, recurses := true, apart := false }
def RtcpPartsSaid : Prop := rtcpPartsRow.holds Try.pinned (OpenSpec.ofChange rtcpPartsSpec)

/-- ITS FALSE NEIGHBOUR: 'it returns false'. Refute it at one input. -/
def rtcpPartsWrong : ChangeSpec := { name := "rtcpParts", fn := fun _ => fun
  | [d1, d2, d3] => { results := [.lit (.bool false)], args := [d1, d2, d3] }
  | _ => none }
def RtcpPartsWrongFalsely : Prop := rtcpPartsRow.holds Try.pinned (OpenSpec.ofChange rtcpPartsWrong)

/- THE SECOND FORM. 'bulk': how many values and letters a reading holds, each counted each time it is reached (what is shared counts as often as it is met; a slice's spare places count too). A statement '..UptoSaid' is the law's where the arguments, and the package variables that the reading takes, are together of bulk at most 1048576: NARROWER than '..Said'. Prove '..Said' where nothing that the law and all that it calls make is longer than what came in: it says more and counts as full. Else prove '..UptoSaid'. A law counts once. -/
mutual
def uptoBulk {H : Type} : DataW H → Nat
  | .lit (.string bytes) => bytes.length + 1
  | .lit _ => 1
  | .nil => 1
  | .ptr d => uptoBulk d + 1
  | .slice elems spare => uptoBulkAll elems + uptoBulkAll spare + 1
  | .agg parts => uptoBulkAll parts + 1
  | .iface _ d => uptoBulk d + 1
  | .map entries => uptoBulkEntries entries + 1
  | .held _ => 1
def uptoBulkAll {H : Type} : List (DataW H) → Nat
  | [] => 0
  | d :: r => uptoBulk d + uptoBulkAll r
def uptoBulkEntries {H : Type} : List (Lit × DataW H) → Nat
  | [] => 0
  | x :: r => uptoBulkEntry x + uptoBulkEntries r
def uptoBulkEntry {H : Type} : Lit × DataW H → Nat
  | (.string bytes, d) => bytes.length + uptoBulk d + 1
  | (_, d) => uptoBulk d + 1
 end
def uptoSmall : (H : Type) → List (DataW H) → Bool := fun _ ds => decide (uptoBulkAll ds ≤ 1048576)
def OpenSpec.upto (s : _root_.Go.ChangeSpec) : _root_.Go.OpenSpec := { _root_.Go.OpenSpec.ofChange s with cond := some uptoSmall }

/-- 'antiphonlaw05.RtcpReads', WHERE WHAT IT READS IS OF BULK AT MOST 1048576: true; the input reads as it did. -/
def rtcpReadsUptoRow : OpenClaim := { program := "yteaccbbmphcmnaa", sum := "4cdfd5eaa5faf4843a8ed0f9cefbf5a53bf86e4f77326e38b5bed90e8c08f9d4", func := "antiphon/antiphonlaw05.RtcpReads", spec := "rtcpReads", inPlace := ["internal/abi.NoEscape"], unfollowed := true, recurses := true, apart := false, narrowed := true }
def RtcpReadsUptoSaid : Prop := rtcpReadsUptoRow.holds Try.pinned (OpenSpec.upto rtcpReadsSpec)

/-- 'antiphonlaw05.RtcpNacks', WHERE WHAT IT READS IS OF BULK AT MOST 1048576: true; the input reads as it did. -/
def rtcpNacksUptoRow : OpenClaim := { program := "yteaccbbmphcmnaa", sum := "4cdfd5eaa5faf4843a8ed0f9cefbf5a53bf86e4f77326e38b5bed90e8c08f9d4", func := "antiphon/antiphonlaw05.RtcpNacks", spec := "rtcpNacks", inPlace := ["internal/abi.NoEscape"], unfollowed := true, recurses := true, apart := false, narrowed := true }
def RtcpNacksUptoSaid : Prop := rtcpNacksUptoRow.holds Try.pinned (OpenSpec.upto rtcpNacksSpec)

/-- 'antiphonlaw05.RtcpTexts', WHERE WHAT IT READS IS OF BULK AT MOST 1048576: true; the input reads as it did. -/
def rtcpTextsUptoRow : OpenClaim := { program := "yteaccbbmphcmnaa", sum := "4cdfd5eaa5faf4843a8ed0f9cefbf5a53bf86e4f77326e38b5bed90e8c08f9d4", func := "antiphon/antiphonlaw05.RtcpTexts", spec := "rtcpTexts", inPlace := ["internal/abi.NoEscape"], unfollowed := true, recurses := true, apart := false, narrowed := true }
def RtcpTextsUptoSaid : Prop := rtcpTextsUptoRow.holds Try.pinned (OpenSpec.upto rtcpTextsSpec)

/-- 'antiphonlaw05.RtcpChecks', WHERE WHAT IT READS IS OF BULK AT MOST 1048576: true; the input reads as it did. -/
def rtcpChecksUptoRow : OpenClaim := { program := "yteaccbbmphcmnaa", sum := "4cdfd5eaa5faf4843a8ed0f9cefbf5a53bf86e4f77326e38b5bed90e8c08f9d4", func := "antiphon/antiphonlaw05.RtcpChecks", spec := "rtcpChecks", inPlace := ["internal/abi.NoEscape"], unfollowed := true, recurses := true, apart := false, narrowed := true }
def RtcpChecksUptoSaid : Prop := rtcpChecksUptoRow.holds Try.pinned (OpenSpec.upto rtcpChecksSpec)

/-- 'antiphonlaw05.RtcpParts', WHERE WHAT IT READS IS OF BULK AT MOST 1048576: true; the input reads as it did. -/
def rtcpPartsUptoRow : OpenClaim := { program := "yteaccbbmphcmnaa", sum := "4cdfd5eaa5faf4843a8ed0f9cefbf5a53bf86e4f77326e38b5bed90e8c08f9d4", func := "antiphon/antiphonlaw05.RtcpParts", spec := "rtcpParts", inPlace := ["internal/abi.NoEscape"], unfollowed := true, recurses := true, apart := false, narrowed := true }
def RtcpPartsUptoSaid : Prop := rtcpPartsUptoRow.holds Try.pinned (OpenSpec.upto rtcpPartsSpec)

end Rows
end Go.Proofs.Yteaccbbmphcmnaa
