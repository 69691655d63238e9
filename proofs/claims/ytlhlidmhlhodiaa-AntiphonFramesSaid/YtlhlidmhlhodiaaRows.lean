/-
  No cell of these rows narrows 'for every input' (looked for: loops, veiled, ifaces, maps, wideKeys, modest, calm, conditions, laid).
  DERIVED. THE GIVEN ROWS OF THIS SEAT. 8 by the template 'for every input the law returns true; each argument reads behind the call as it read before'; 0 by the template 'total and deterministic' (their statements: YtlhlidmhlhodiaaTotals.lean).
  GIVEN WITH THE SEED: the statements are not yours to turn. If you find one false, say at which input.
  Laid BY PROGRAM, IN A SANDBOX (cutbox-rows.mjs): the forced cells as the released guide's own fill.sh prints them over the translation bf4333343fae5fbd… (all of the seat's roots in one cut). By AI agents, Wed Nov 11 2026. No macro, syntax, notation, axiom, sorry.
-/
import Derived.Test.YtlhlidmhlhodiaaChecked
import GoSem.Claim
import GoSem.ClaimJoined
import GoSem.ClaimMapViews
import Derived.JoinedTies
import Derived.KernelRfl
namespace Go.Proofs.Ytlhlidmhlhodiaa
/- THE CELL 'sum', in the pinned program and in every row, IS THE sha256 OF THE DUMP (.gsa) THAT YtlhlidmhlhodiaaProg.lean LOADS. Nothing in Lean hashes anything: it is a label: what it is worth is what the hold of that sum in a sandbox is worth. -/
noncomputable def Try.pinned : Pinned := { name := "ytlhlidmhlhodiaa", sum := "bf4333343fae5fbd3fd5268342b1449c502a96928a28f08fa3645d609dca288b", checked := Try.checked }
namespace Rows
def none {H : Type} : Left H := { results := [], args := [] }

/-- 'antiphontop.AntiphonPictures': WHATEVER THE INPUT: true; the input reads as it did. -/
def antiphonPicturesSpec : ChangeSpec := { name := "antiphonPictures", fn := fun _ => fun
  | [d1, d2, d3, d4, d5] => { results := [.lit (.bool true)], args := [d1, d2, d3, d4, d5] }
  | _ => none }
def antiphonPicturesRow : OpenClaim := { program := "ytlhlidmhlhodiaa", sum := "bf4333343fae5fbd3fd5268342b1449c502a96928a28f08fa3645d609dca288b", func := "antiphon/antiphontop.AntiphonPictures", spec := "antiphonPictures", inPlace := ["internal/abi.NoEscape"], unfollowed := true, recurses := true, apart := false }
def AntiphonPicturesSaid : Prop := antiphonPicturesRow.holds Try.pinned (OpenSpec.ofChange antiphonPicturesSpec)

/-- ITS FALSE NEIGHBOUR: 'it returns false'. Refute it at one input. -/
def antiphonPicturesWrong : ChangeSpec := { name := "antiphonPictures", fn := fun _ => fun
  | [d1, d2, d3, d4, d5] => { results := [.lit (.bool false)], args := [d1, d2, d3, d4, d5] }
  | _ => none }
def AntiphonPicturesWrongFalsely : Prop := antiphonPicturesRow.holds Try.pinned (OpenSpec.ofChange antiphonPicturesWrong)

/-- 'antiphontop.AntiphonAsks': WHATEVER THE INPUT: true; the input reads as it did. -/
def antiphonAsksSpec : ChangeSpec := { name := "antiphonAsks", fn := fun _ => fun
  | [d1, d2, d3] => { results := [.lit (.bool true)], args := [d1, d2, d3] }
  | _ => none }
def antiphonAsksRow : OpenClaim := { program := "ytlhlidmhlhodiaa", sum := "bf4333343fae5fbd3fd5268342b1449c502a96928a28f08fa3645d609dca288b", func := "antiphon/antiphontop.AntiphonAsks", spec := "antiphonAsks", inPlace := ["internal/abi.NoEscape"], unfollowed := true, recurses := true, apart := false }
def AntiphonAsksSaid : Prop := antiphonAsksRow.holds Try.pinned (OpenSpec.ofChange antiphonAsksSpec)

/-- ITS FALSE NEIGHBOUR: 'it returns false'. Refute it at one input. -/
def antiphonAsksWrong : ChangeSpec := { name := "antiphonAsks", fn := fun _ => fun
  | [d1, d2, d3] => { results := [.lit (.bool false)], args := [d1, d2, d3] }
  | _ => none }
def AntiphonAsksWrongFalsely : Prop := antiphonAsksRow.holds Try.pinned (OpenSpec.ofChange antiphonAsksWrong)

/-- 'antiphontop.AntiphonClimbs': WHATEVER THE INPUT: true; the input reads as it did. -/
def antiphonClimbsSpec : ChangeSpec := { name := "antiphonClimbs", fn := fun _ => fun
  | [d1, d2, d3] => { results := [.lit (.bool true)], args := [d1, d2, d3] }
  | _ => none }
def antiphonClimbsRow : OpenClaim := { program := "ytlhlidmhlhodiaa", sum := "bf4333343fae5fbd3fd5268342b1449c502a96928a28f08fa3645d609dca288b", func := "antiphon/antiphontop.AntiphonClimbs", spec := "antiphonClimbs", inPlace := ["internal/abi.NoEscape"], unfollowed := true, recurses := true, apart := false }
def AntiphonClimbsSaid : Prop := antiphonClimbsRow.holds Try.pinned (OpenSpec.ofChange antiphonClimbsSpec)

/-- ITS FALSE NEIGHBOUR: 'it returns false'. Refute it at one input. -/
def antiphonClimbsWrong : ChangeSpec := { name := "antiphonClimbs", fn := fun _ => fun
  | [d1, d2, d3] => { results := [.lit (.bool false)], args := [d1, d2, d3] }
  | _ => none }
def AntiphonClimbsWrongFalsely : Prop := antiphonClimbsRow.holds Try.pinned (OpenSpec.ofChange antiphonClimbsWrong)

/-- 'antiphontop.AntiphonDatagrams': WHATEVER THE INPUT: true; the input reads as it did. -/
def antiphonDatagramsSpec : ChangeSpec := { name := "antiphonDatagrams", fn := fun _ => fun
  | [d] => { results := [.lit (.bool true)], args := [d] }
  | _ => none }
def antiphonDatagramsRow : OpenClaim := { program := "ytlhlidmhlhodiaa", sum := "bf4333343fae5fbd3fd5268342b1449c502a96928a28f08fa3645d609dca288b", func := "antiphon/antiphontop.AntiphonDatagrams", spec := "antiphonDatagrams", inPlace := ["internal/abi.NoEscape"], unfollowed := true, recurses := true, apart := false }
def AntiphonDatagramsSaid : Prop := antiphonDatagramsRow.holds Try.pinned (OpenSpec.ofChange antiphonDatagramsSpec)

/-- ITS FALSE NEIGHBOUR: 'it returns false'. Refute it at one input. -/
def antiphonDatagramsWrong : ChangeSpec := { name := "antiphonDatagrams", fn := fun _ => fun
  | [d] => { results := [.lit (.bool false)], args := [d] }
  | _ => none }
def AntiphonDatagramsWrongFalsely : Prop := antiphonDatagramsRow.holds Try.pinned (OpenSpec.ofChange antiphonDatagramsWrong)

/-- 'antiphontop.AntiphonNacks': WHATEVER THE INPUT: true; the input reads as it did. -/
def antiphonNacksSpec : ChangeSpec := { name := "antiphonNacks", fn := fun _ => fun
  | [d1, d2] => { results := [.lit (.bool true)], args := [d1, d2] }
  | _ => none }
def antiphonNacksRow : OpenClaim := { program := "ytlhlidmhlhodiaa", sum := "bf4333343fae5fbd3fd5268342b1449c502a96928a28f08fa3645d609dca288b", func := "antiphon/antiphontop.AntiphonNacks", spec := "antiphonNacks", inPlace := ["internal/abi.NoEscape"], unfollowed := true, recurses := true, apart := false }
def AntiphonNacksSaid : Prop := antiphonNacksRow.holds Try.pinned (OpenSpec.ofChange antiphonNacksSpec)

/-- ITS FALSE NEIGHBOUR: 'it returns false'. Refute it at one input. -/
def antiphonNacksWrong : ChangeSpec := { name := "antiphonNacks", fn := fun _ => fun
  | [d1, d2] => { results := [.lit (.bool false)], args := [d1, d2] }
  | _ => none }
def AntiphonNacksWrongFalsely : Prop := antiphonNacksRow.holds Try.pinned (OpenSpec.ofChange antiphonNacksWrong)

/-- 'antiphontop.AntiphonFrames': WHATEVER THE INPUT: true; the input reads as it did. -/
def antiphonFramesSpec : ChangeSpec := { name := "antiphonFrames", fn := fun _ => fun
  | [d1, d2, d3] => { results := [.lit (.bool true)], args := [d1, d2, d3] }
  | _ => none }
def antiphonFramesRow : OpenClaim := { program := "ytlhlidmhlhodiaa", sum := "bf4333343fae5fbd3fd5268342b1449c502a96928a28f08fa3645d609dca288b", func := "antiphon/antiphontop.AntiphonFrames", spec := "antiphonFrames", inPlace := ["internal/abi.NoEscape"], unfollowed := true, recurses := true, apart := false }
def AntiphonFramesSaid : Prop := antiphonFramesRow.holds Try.pinned (OpenSpec.ofChange antiphonFramesSpec)

/-- ITS FALSE NEIGHBOUR: 'it returns false'. Refute it at one input. -/
def antiphonFramesWrong : ChangeSpec := { name := "antiphonFrames", fn := fun _ => fun
  | [d1, d2, d3] => { results := [.lit (.bool false)], args := [d1, d2, d3] }
  | _ => none }
def AntiphonFramesWrongFalsely : Prop := antiphonFramesRow.holds Try.pinned (OpenSpec.ofChange antiphonFramesWrong)

/-- 'antiphontop.AntiphonForward': WHATEVER THE INPUT: true; the input reads as it did. -/
def antiphonForwardSpec : ChangeSpec := { name := "antiphonForward", fn := fun _ => fun
  | [d1, d2, d3, d4] => { results := [.lit (.bool true)], args := [d1, d2, d3, d4] }
  | _ => none }
def antiphonForwardRow : OpenClaim := { program := "ytlhlidmhlhodiaa", sum := "bf4333343fae5fbd3fd5268342b1449c502a96928a28f08fa3645d609dca288b", func := "antiphon/antiphontop.AntiphonForward", spec := "antiphonForward", inPlace := ["internal/abi.NoEscape"], unfollowed := true, recurses := true, apart := false }
def AntiphonForwardSaid : Prop := antiphonForwardRow.holds Try.pinned (OpenSpec.ofChange antiphonForwardSpec)

/-- ITS FALSE NEIGHBOUR: 'it returns false'. Refute it at one input. -/
def antiphonForwardWrong : ChangeSpec := { name := "antiphonForward", fn := fun _ => fun
  | [d1, d2, d3, d4] => { results := [.lit (.bool false)], args := [d1, d2, d3, d4] }
  | _ => none }
def AntiphonForwardWrongFalsely : Prop := antiphonForwardRow.holds Try.pinned (OpenSpec.ofChange antiphonForwardWrong)

/-- 'antiphontop.AntiphonShares': WHATEVER THE INPUT: true; the input reads as it did. -/
def antiphonSharesSpec : ChangeSpec := { name := "antiphonShares", fn := fun _ => fun
  | [d1, d2, d3, d4] => { results := [.lit (.bool true)], args := [d1, d2, d3, d4] }
  | _ => none }
def antiphonSharesRow : OpenClaim := { program := "ytlhlidmhlhodiaa", sum := "bf4333343fae5fbd3fd5268342b1449c502a96928a28f08fa3645d609dca288b", func := "antiphon/antiphontop.AntiphonShares", spec := "antiphonShares", inPlace := ["internal/abi.NoEscape"], unfollowed := true, recurses := true, apart := false }
def AntiphonSharesSaid : Prop := antiphonSharesRow.holds Try.pinned (OpenSpec.ofChange antiphonSharesSpec)

/-- ITS FALSE NEIGHBOUR: 'it returns false'. Refute it at one input. -/
def antiphonSharesWrong : ChangeSpec := { name := "antiphonShares", fn := fun _ => fun
  | [d1, d2, d3, d4] => { results := [.lit (.bool false)], args := [d1, d2, d3, d4] }
  | _ => none }
def AntiphonSharesWrongFalsely : Prop := antiphonSharesRow.holds Try.pinned (OpenSpec.ofChange antiphonSharesWrong)

/- THE SECOND FORM. 'bulk': how many values and letters a reading holds, each counted each time it is reached (what is shared counts as often as it is met; a slice's spare places count too). A statement '..UptoSaid' is the law's where the arguments, and the package variables that the reading takes, are together of bulk at most 1048576: NARROWER than '..Said'. Prove '..Said' where nothing that the law and all that it calls make is longer than what came in: it says more and counts as full. Else prove '..UptoSaid'. A law counts once. -/
mutual
def uptoBulk {H : Type} : DataW H → Nat
  | .lit (.string bytes) => bytes.length + 1
  | .lit _ => 1
  | .nil => 1
  | .ptr d => uptoBulk d + 1
  | .slice elems spare => uptoBulkAll elems + uptoBulkAll spare + 1
  | .agg parts => uptoBulkAll parts + 1
  | .iface _ d => uptoBulk d + 1
  | .map entries => uptoBulkEntries entries + 1
  | .held _ => 1
def uptoBulkAll {H : Type} : List (DataW H) → Nat
  | [] => 0
  | d :: r => uptoBulk d + uptoBulkAll r
def uptoBulkEntries {H : Type} : List (Lit × DataW H) → Nat
  | [] => 0
  | x :: r => uptoBulkEntry x + uptoBulkEntries r
def uptoBulkEntry {H : Type} : Lit × DataW H → Nat
  | (.string bytes, d) => bytes.length + uptoBulk d + 1
  | (_, d) => uptoBulk d + 1
 end
def uptoSmall : (H : Type) → List (DataW H) → Bool := fun _ ds => decide (uptoBulkAll ds ≤ 1048576)
def OpenSpec.upto (s : _root_.Go.ChangeSpec) : _root_.Go.OpenSpec := { _root_.Go.OpenSpec.ofChange s with cond := some uptoSmall }

/-- 'antiphontop.AntiphonPictures', WHERE WHAT IT READS IS OF BULK AT MOST 1048576: true; the input reads as it did. -/
def antiphonPicturesUptoRow : OpenClaim := { program := "ytlhlidmhlhodiaa", sum := "bf4333343fae5fbd3fd5268342b1449c502a96928a28f08fa3645d609dca288b", func := "antiphon/antiphontop.AntiphonPictures", spec := "antiphonPictures", inPlace := ["internal/abi.NoEscape"], unfollowed := true, recurses := true, apart := false, narrowed := true }
def AntiphonPicturesUptoSaid : Prop := antiphonPicturesUptoRow.holds Try.pinned (OpenSpec.upto antiphonPicturesSpec)

/-- 'antiphontop.AntiphonAsks', WHERE WHAT IT READS IS OF BULK AT MOST 1048576: true; the input reads as it did. -/
def antiphonAsksUptoRow : OpenClaim := { program := "ytlhlidmhlhodiaa", sum := "bf4333343fae5fbd3fd5268342b1449c502a96928a28f08fa3645d609dca288b", func := "antiphon/antiphontop.AntiphonAsks", spec := "antiphonAsks", inPlace := ["internal/abi.NoEscape"], unfollowed := true, recurses := true, apart := false, narrowed := true }
def AntiphonAsksUptoSaid : Prop := antiphonAsksUptoRow.holds Try.pinned (OpenSpec.upto antiphonAsksSpec)

/-- 'antiphontop.AntiphonClimbs', WHERE WHAT IT READS IS OF BULK AT MOST 1048576: true; the input reads as it did. -/
def antiphonClimbsUptoRow : OpenClaim := { program := "ytlhlidmhlhodiaa", sum := "bf4333343fae5fbd3fd5268342b1449c502a96928a28f08fa3645d609dca288b", func := "antiphon/antiphontop.AntiphonClimbs", spec := "antiphonClimbs", inPlace := ["internal/abi.NoEscape"], unfollowed := true, recurses := true, apart := false, narrowed := true }
def AntiphonClimbsUptoSaid : Prop := antiphonClimbsUptoRow.holds Try.pinned (OpenSpec.upto antiphonClimbsSpec)

/-- 'antiphontop.AntiphonDatagrams', WHERE WHAT IT READS IS OF BULK AT MOST 1048576: true; the input reads as it did. -/
def antiphonDatagramsUptoRow : OpenClaim := { program := "ytlhlidmhlhodiaa", sum := "bf4333343fae5fbd3fd5268342b1449c502a96928a28f08fa3645d609dca288b", func := "antiphon/antiphontop.AntiphonDatagrams", spec := "antiphonDatagrams", inPlace := ["internal/abi.NoEscape"], unfollowed := true, recurses := true, apart := false, narrowed := true }
def AntiphonDatagramsUptoSaid : Prop := antiphonDatagramsUptoRow.holds Try.pinned (OpenSpec.upto antiphonDatagramsSpec)

/-- 'antiphontop.AntiphonNacks', WHERE WHAT IT READS IS OF BULK AT MOST 1048576: true; the input reads as it did. -/
def antiphonNacksUptoRow : OpenClaim := { program := "ytlhlidmhlhodiaa", sum := "bf4333343fae5fbd3fd5268342b1449c502a96928a28f08fa3645d609dca288b", func := "antiphon/antiphontop.AntiphonNacks", spec := "antiphonNacks", inPlace := ["internal/abi.NoEscape"], unfollowed := true, recurses := true, apart := false, narrowed := true }
def AntiphonNacksUptoSaid : Prop := antiphonNacksUptoRow.holds Try.pinned (OpenSpec.upto antiphonNacksSpec)

/-- 'antiphontop.AntiphonFrames', WHERE WHAT IT READS IS OF BULK AT MOST 1048576: true; the input reads as it did. -/
def antiphonFramesUptoRow : OpenClaim := { program := "ytlhlidmhlhodiaa", sum := "bf4333343fae5fbd3fd5268342b1449c502a96928a28f08fa3645d609dca288b", func := "antiphon/antiphontop.AntiphonFrames", spec := "antiphonFrames", inPlace := ["internal/abi.NoEscape"], unfollowed := true, recurses := true, apart := false, narrowed := true }
def AntiphonFramesUptoSaid : Prop := antiphonFramesUptoRow.holds Try.pinned (OpenSpec.upto antiphonFramesSpec)

/-- 'antiphontop.AntiphonForward', WHERE WHAT IT READS IS OF BULK AT MOST 1048576: true; the input reads as it did. -/
def antiphonForwardUptoRow : OpenClaim := { program := "ytlhlidmhlhodiaa", sum := "bf4333343fae5fbd3fd5268342b1449c502a96928a28f08fa3645d609dca288b", func := "antiphon/antiphontop.AntiphonForward", spec := "antiphonForward", inPlace := ["internal/abi.NoEscape"], unfollowed := true, recurses := true, apart := false, narrowed := true }
def AntiphonForwardUptoSaid : Prop := antiphonForwardUptoRow.holds Try.pinned (OpenSpec.upto antiphonForwardSpec)

/-- 'antiphontop.AntiphonShares', WHERE WHAT IT READS IS OF BULK AT MOST 1048576: true; the input reads as it did. -/
def antiphonSharesUptoRow : OpenClaim := { program := "ytlhlidmhlhodiaa", sum := "bf4333343fae5fbd3fd5268342b1449c502a96928a28f08fa3645d609dca288b", func := "antiphon/antiphontop.AntiphonShares", spec := "antiphonShares", inPlace := ["internal/abi.NoEscape"], unfollowed := true, recurses := true, apart := false, narrowed := true }
def AntiphonSharesUptoSaid : Prop := antiphonSharesUptoRow.holds Try.pinned (OpenSpec.upto antiphonSharesSpec)

end Rows
end Go.Proofs.Ytlhlidmhlhodiaa
