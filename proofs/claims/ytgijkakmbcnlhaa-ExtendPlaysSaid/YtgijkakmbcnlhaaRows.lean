/-
  No cell of these rows narrows 'for every input' (looked for: loops, veiled, ifaces, maps, wideKeys, modest, calm, conditions, laid).
  DERIVED. THE GIVEN ROWS OF THIS SEAT. 10 by the template 'for every input the law returns true; each argument reads behind the call as it read before'; 0 by the template 'total and deterministic' (their statements: YtgijkakmbcnlhaaTotals.lean).
  GIVEN WITH THE SEED: the statements are not yours to turn. If you find one false, say at which input.
  Laid BY PROGRAM, IN A SANDBOX (cutbox-rows.mjs): the forced cells as the released guide's own fill.sh prints them over the translation fc6d160e250add7f… (all of the seat's roots in one cut). By AI agents, Wed Nov 11 2026. No macro, syntax, notation, axiom, sorry.
-/
import Derived.Test.YtgijkakmbcnlhaaChecked
import GoSem.Claim
import GoSem.ClaimJoined
import GoSem.ClaimMapViews
import Derived.JoinedTies
import Derived.KernelRfl
namespace Go.Proofs.Ytgijkakmbcnlhaa
/- THE CELL 'sum', in the pinned program and in every row, IS THE sha256 OF THE DUMP (.gsa) THAT YtgijkakmbcnlhaaProg.lean LOADS. Nothing in Lean hashes anything: it is a label: what it is worth is what the hold of that sum in a sandbox is worth. -/
noncomputable def Try.pinned : Pinned := { name := "ytgijkakmbcnlhaa", sum := "fc6d160e250add7fd646675e61e4b316918aa0f905d716c2cc5161931460d713", checked := Try.checked }
namespace Rows
def none {H : Type} : Left H := { results := [], args := [] }

/-- 'antiphonlaw01.SerialDist': WHATEVER THE INPUT: true; the input reads as it did. -/
def serialDistSpec : ChangeSpec := { name := "serialDist", fn := fun _ => fun
  | [d1, d2, d3, d4] => { results := [.lit (.bool true)], args := [d1, d2, d3, d4] }
  | _ => none }
def serialDistRow : OpenClaim := { program := "ytgijkakmbcnlhaa", sum := "fc6d160e250add7fd646675e61e4b316918aa0f905d716c2cc5161931460d713", func := "antiphon/antiphonlaw01.SerialDist", spec := "serialDist", apart := false }
def SerialDistSaid : Prop := serialDistRow.holds Try.pinned (OpenSpec.ofChange serialDistSpec)

/-- ITS FALSE NEIGHBOUR: 'it returns false'. Refute it at one input. -/
def serialDistWrong : ChangeSpec := { name := "serialDist", fn := fun _ => fun
  | [d1, d2, d3, d4] => { results := [.lit (.bool false)], args := [d1, d2, d3, d4] }
  | _ => none }
def SerialDistWrongFalsely : Prop := serialDistRow.holds Try.pinned (OpenSpec.ofChange serialDistWrong)

/-- 'antiphonlaw01.SerialOne': WHATEVER THE INPUT: true; the input reads as it did. -/
def serialOneSpec : ChangeSpec := { name := "serialOne", fn := fun _ => fun
  | [d1, d2, d3, d4] => { results := [.lit (.bool true)], args := [d1, d2, d3, d4] }
  | _ => none }
def serialOneRow : OpenClaim := { program := "ytgijkakmbcnlhaa", sum := "fc6d160e250add7fd646675e61e4b316918aa0f905d716c2cc5161931460d713", func := "antiphon/antiphonlaw01.SerialOne", spec := "serialOne", apart := false }
def SerialOneSaid : Prop := serialOneRow.holds Try.pinned (OpenSpec.ofChange serialOneSpec)

/-- ITS FALSE NEIGHBOUR: 'it returns false'. Refute it at one input. -/
def serialOneWrong : ChangeSpec := { name := "serialOne", fn := fun _ => fun
  | [d1, d2, d3, d4] => { results := [.lit (.bool false)], args := [d1, d2, d3, d4] }
  | _ => none }
def SerialOneWrongFalsely : Prop := serialOneRow.holds Try.pinned (OpenSpec.ofChange serialOneWrong)

/-- 'antiphonlaw01.SerialNear': WHATEVER THE INPUT: true; the input reads as it did. -/
def serialNearSpec : ChangeSpec := { name := "serialNear", fn := fun _ => fun
  | [d1, d2, d3] => { results := [.lit (.bool true)], args := [d1, d2, d3] }
  | _ => none }
def serialNearRow : OpenClaim := { program := "ytgijkakmbcnlhaa", sum := "fc6d160e250add7fd646675e61e4b316918aa0f905d716c2cc5161931460d713", func := "antiphon/antiphonlaw01.SerialNear", spec := "serialNear", apart := false }
def SerialNearSaid : Prop := serialNearRow.holds Try.pinned (OpenSpec.ofChange serialNearSpec)

/-- ITS FALSE NEIGHBOUR: 'it returns false'. Refute it at one input. -/
def serialNearWrong : ChangeSpec := { name := "serialNear", fn := fun _ => fun
  | [d1, d2, d3] => { results := [.lit (.bool false)], args := [d1, d2, d3] }
  | _ => none }
def SerialNearWrongFalsely : Prop := serialNearRow.holds Try.pinned (OpenSpec.ofChange serialNearWrong)

/-- 'antiphonlaw01.SerialAdds': WHATEVER THE INPUT: true; the input reads as it did. -/
def serialAddsSpec : ChangeSpec := { name := "serialAdds", fn := fun _ => fun
  | [d1, d2, d3] => { results := [.lit (.bool true)], args := [d1, d2, d3] }
  | _ => none }
def serialAddsRow : OpenClaim := { program := "ytgijkakmbcnlhaa", sum := "fc6d160e250add7fd646675e61e4b316918aa0f905d716c2cc5161931460d713", func := "antiphon/antiphonlaw01.SerialAdds", spec := "serialAdds", apart := false }
def SerialAddsSaid : Prop := serialAddsRow.holds Try.pinned (OpenSpec.ofChange serialAddsSpec)

/-- ITS FALSE NEIGHBOUR: 'it returns false'. Refute it at one input. -/
def serialAddsWrong : ChangeSpec := { name := "serialAdds", fn := fun _ => fun
  | [d1, d2, d3] => { results := [.lit (.bool false)], args := [d1, d2, d3] }
  | _ => none }
def SerialAddsWrongFalsely : Prop := serialAddsRow.holds Try.pinned (OpenSpec.ofChange serialAddsWrong)

/-- 'antiphonlaw01.SerialLatest': WHATEVER THE INPUT: true; the input reads as it did. -/
def serialLatestSpec : ChangeSpec := { name := "serialLatest", fn := fun _ => fun
  | [d1, d2] => { results := [.lit (.bool true)], args := [d1, d2] }
  | _ => none }
def serialLatestRow : OpenClaim := { program := "ytgijkakmbcnlhaa", sum := "fc6d160e250add7fd646675e61e4b316918aa0f905d716c2cc5161931460d713", func := "antiphon/antiphonlaw01.SerialLatest", spec := "serialLatest", apart := false }
def SerialLatestSaid : Prop := serialLatestRow.holds Try.pinned (OpenSpec.ofChange serialLatestSpec)

/-- ITS FALSE NEIGHBOUR: 'it returns false'. Refute it at one input. -/
def serialLatestWrong : ChangeSpec := { name := "serialLatest", fn := fun _ => fun
  | [d1, d2] => { results := [.lit (.bool false)], args := [d1, d2] }
  | _ => none }
def SerialLatestWrongFalsely : Prop := serialLatestRow.holds Try.pinned (OpenSpec.ofChange serialLatestWrong)

/-- 'antiphonlaw08.ExtendPlays': WHATEVER THE INPUT: true; the input reads as it did. -/
def extendPlaysSpec : ChangeSpec := { name := "extendPlays", fn := fun _ => fun
  | [d] => { results := [.lit (.bool true)], args := [d] }
  | _ => none }
def extendPlaysRow : OpenClaim := { program := "ytgijkakmbcnlhaa", sum := "fc6d160e250add7fd646675e61e4b316918aa0f905d716c2cc5161931460d713", func := "antiphon/antiphonlaw08.ExtendPlays", spec := "extendPlays", apart := false }
def ExtendPlaysSaid : Prop := extendPlaysRow.holds Try.pinned (OpenSpec.ofChange extendPlaysSpec)

/-- ITS FALSE NEIGHBOUR: 'it returns false'. Refute it at one input. -/
def extendPlaysWrong : ChangeSpec := { name := "extendPlays", fn := fun _ => fun
  | [d] => { results := [.lit (.bool false)], args := [d] }
  | _ => none }
def ExtendPlaysWrongFalsely : Prop := extendPlaysRow.holds Try.pinned (OpenSpec.ofChange extendPlaysWrong)

/-- 'antiphonlaw08.ExtendKeeps': WHATEVER THE INPUT: true; the input reads as it did. -/
def extendKeepsSpec : ChangeSpec := { name := "extendKeeps", fn := fun _ => fun
  | [d1, d2] => { results := [.lit (.bool true)], args := [d1, d2] }
  | _ => none }
def extendKeepsRow : OpenClaim := { program := "ytgijkakmbcnlhaa", sum := "fc6d160e250add7fd646675e61e4b316918aa0f905d716c2cc5161931460d713", func := "antiphon/antiphonlaw08.ExtendKeeps", spec := "extendKeeps", apart := false }
def ExtendKeepsSaid : Prop := extendKeepsRow.holds Try.pinned (OpenSpec.ofChange extendKeepsSpec)

/-- ITS FALSE NEIGHBOUR: 'it returns false'. Refute it at one input. -/
def extendKeepsWrong : ChangeSpec := { name := "extendKeeps", fn := fun _ => fun
  | [d1, d2] => { results := [.lit (.bool false)], args := [d1, d2] }
  | _ => none }
def ExtendKeepsWrongFalsely : Prop := extendKeepsRow.holds Try.pinned (OpenSpec.ofChange extendKeepsWrong)

/-- 'antiphonlaw08.ExtendJumps': WHATEVER THE INPUT: true; the input reads as it did. -/
def extendJumpsSpec : ChangeSpec := { name := "extendJumps", fn := fun _ => fun
  | [d1, d2] => { results := [.lit (.bool true)], args := [d1, d2] }
  | _ => none }
def extendJumpsRow : OpenClaim := { program := "ytgijkakmbcnlhaa", sum := "fc6d160e250add7fd646675e61e4b316918aa0f905d716c2cc5161931460d713", func := "antiphon/antiphonlaw08.ExtendJumps", spec := "extendJumps", apart := false }
def ExtendJumpsSaid : Prop := extendJumpsRow.holds Try.pinned (OpenSpec.ofChange extendJumpsSpec)

/-- ITS FALSE NEIGHBOUR: 'it returns false'. Refute it at one input. -/
def extendJumpsWrong : ChangeSpec := { name := "extendJumps", fn := fun _ => fun
  | [d1, d2] => { results := [.lit (.bool false)], args := [d1, d2] }
  | _ => none }
def ExtendJumpsWrongFalsely : Prop := extendJumpsRow.holds Try.pinned (OpenSpec.ofChange extendJumpsWrong)

/-- 'antiphonlaw08.ExtendTwo': WHATEVER THE INPUT: true; the input reads as it did. -/
def extendTwoSpec : ChangeSpec := { name := "extendTwo", fn := fun _ => fun
  | [d] => { results := [.lit (.bool true)], args := [d] }
  | _ => none }
def extendTwoRow : OpenClaim := { program := "ytgijkakmbcnlhaa", sum := "fc6d160e250add7fd646675e61e4b316918aa0f905d716c2cc5161931460d713", func := "antiphon/antiphonlaw08.ExtendTwo", spec := "extendTwo", apart := false }
def ExtendTwoSaid : Prop := extendTwoRow.holds Try.pinned (OpenSpec.ofChange extendTwoSpec)

/-- ITS FALSE NEIGHBOUR: 'it returns false'. Refute it at one input. -/
def extendTwoWrong : ChangeSpec := { name := "extendTwo", fn := fun _ => fun
  | [d] => { results := [.lit (.bool false)], args := [d] }
  | _ => none }
def ExtendTwoWrongFalsely : Prop := extendTwoRow.holds Try.pinned (OpenSpec.ofChange extendTwoWrong)

/-- 'antiphonlaw08.ExtendTimes': WHATEVER THE INPUT: true; the input reads as it did. -/
def extendTimesSpec : ChangeSpec := { name := "extendTimes", fn := fun _ => fun
  | [d] => { results := [.lit (.bool true)], args := [d] }
  | _ => none }
def extendTimesRow : OpenClaim := { program := "ytgijkakmbcnlhaa", sum := "fc6d160e250add7fd646675e61e4b316918aa0f905d716c2cc5161931460d713", func := "antiphon/antiphonlaw08.ExtendTimes", spec := "extendTimes", apart := false }
def ExtendTimesSaid : Prop := extendTimesRow.holds Try.pinned (OpenSpec.ofChange extendTimesSpec)

/-- ITS FALSE NEIGHBOUR: 'it returns false'. Refute it at one input. -/
def extendTimesWrong : ChangeSpec := { name := "extendTimes", fn := fun _ => fun
  | [d] => { results := [.lit (.bool false)], args := [d] }
  | _ => none }
def ExtendTimesWrongFalsely : Prop := extendTimesRow.holds Try.pinned (OpenSpec.ofChange extendTimesWrong)

/- THE SECOND FORM. 'bulk': how many values and letters a reading holds, each counted each time it is reached (what is shared counts as often as it is met; a slice's spare places count too). A statement '..UptoSaid' is the law's where the arguments, and the package variables that the reading takes, are together of bulk at most 1048576: NARROWER than '..Said'. Prove '..Said' where nothing that the law and all that it calls make is longer than what came in: it says more and counts as full. Else prove '..UptoSaid'. A law counts once. -/
mutual
def uptoBulk {H : Type} : DataW H → Nat
  | .lit (.string bytes) => bytes.length + 1
  | .lit _ => 1
  | .nil => 1
  | .ptr d => uptoBulk d + 1
  | .slice elems spare => uptoBulkAll elems + uptoBulkAll spare + 1
  | .agg parts => uptoBulkAll parts + 1
  | .iface _ d => uptoBulk d + 1
  | .map entries => uptoBulkEntries entries + 1
  | .held _ => 1
def uptoBulkAll {H : Type} : List (DataW H) → Nat
  | [] => 0
  | d :: r => uptoBulk d + uptoBulkAll r
def uptoBulkEntries {H : Type} : List (Lit × DataW H) → Nat
  | [] => 0
  | x :: r => uptoBulkEntry x + uptoBulkEntries r
def uptoBulkEntry {H : Type} : Lit × DataW H → Nat
  | (.string bytes, d) => bytes.length + uptoBulk d + 1
  | (_, d) => uptoBulk d + 1
 end
def uptoSmall : (H : Type) → List (DataW H) → Bool := fun _ ds => decide (uptoBulkAll ds ≤ 1048576)
def OpenSpec.upto (s : _root_.Go.ChangeSpec) : _root_.Go.OpenSpec := { _root_.Go.OpenSpec.ofChange s with cond := some uptoSmall }

/-- 'antiphonlaw01.SerialDist', WHERE WHAT IT READS IS OF BULK AT MOST 1048576: true; the input reads as it did. -/
def serialDistUptoRow : OpenClaim := { program := "ytgijkakmbcnlhaa", sum := "fc6d160e250add7fd646675e61e4b316918aa0f905d716c2cc5161931460d713", func := "antiphon/antiphonlaw01.SerialDist", spec := "serialDist", apart := false, narrowed := true }
def SerialDistUptoSaid : Prop := serialDistUptoRow.holds Try.pinned (OpenSpec.upto serialDistSpec)

/-- 'antiphonlaw01.SerialOne', WHERE WHAT IT READS IS OF BULK AT MOST 1048576: true; the input reads as it did. -/
def serialOneUptoRow : OpenClaim := { program := "ytgijkakmbcnlhaa", sum := "fc6d160e250add7fd646675e61e4b316918aa0f905d716c2cc5161931460d713", func := "antiphon/antiphonlaw01.SerialOne", spec := "serialOne", apart := false, narrowed := true }
def SerialOneUptoSaid : Prop := serialOneUptoRow.holds Try.pinned (OpenSpec.upto serialOneSpec)

/-- 'antiphonlaw01.SerialNear', WHERE WHAT IT READS IS OF BULK AT MOST 1048576: true; the input reads as it did. -/
def serialNearUptoRow : OpenClaim := { program := "ytgijkakmbcnlhaa", sum := "fc6d160e250add7fd646675e61e4b316918aa0f905d716c2cc5161931460d713", func := "antiphon/antiphonlaw01.SerialNear", spec := "serialNear", apart := false, narrowed := true }
def SerialNearUptoSaid : Prop := serialNearUptoRow.holds Try.pinned (OpenSpec.upto serialNearSpec)

/-- 'antiphonlaw01.SerialAdds', WHERE WHAT IT READS IS OF BULK AT MOST 1048576: true; the input reads as it did. -/
def serialAddsUptoRow : OpenClaim := { program := "ytgijkakmbcnlhaa", sum := "fc6d160e250add7fd646675e61e4b316918aa0f905d716c2cc5161931460d713", func := "antiphon/antiphonlaw01.SerialAdds", spec := "serialAdds", apart := false, narrowed := true }
def SerialAddsUptoSaid : Prop := serialAddsUptoRow.holds Try.pinned (OpenSpec.upto serialAddsSpec)

/-- 'antiphonlaw01.SerialLatest', WHERE WHAT IT READS IS OF BULK AT MOST 1048576: true; the input reads as it did. -/
def serialLatestUptoRow : OpenClaim := { program := "ytgijkakmbcnlhaa", sum := "fc6d160e250add7fd646675e61e4b316918aa0f905d716c2cc5161931460d713", func := "antiphon/antiphonlaw01.SerialLatest", spec := "serialLatest", apart := false, narrowed := true }
def SerialLatestUptoSaid : Prop := serialLatestUptoRow.holds Try.pinned (OpenSpec.upto serialLatestSpec)

/-- 'antiphonlaw08.ExtendPlays', WHERE WHAT IT READS IS OF BULK AT MOST 1048576: true; the input reads as it did. -/
def extendPlaysUptoRow : OpenClaim := { program := "ytgijkakmbcnlhaa", sum := "fc6d160e250add7fd646675e61e4b316918aa0f905d716c2cc5161931460d713", func := "antiphon/antiphonlaw08.ExtendPlays", spec := "extendPlays", apart := false, narrowed := true }
def ExtendPlaysUptoSaid : Prop := extendPlaysUptoRow.holds Try.pinned (OpenSpec.upto extendPlaysSpec)

/-- 'antiphonlaw08.ExtendKeeps', WHERE WHAT IT READS IS OF BULK AT MOST 1048576: true; the input reads as it did. -/
def extendKeepsUptoRow : OpenClaim := { program := "ytgijkakmbcnlhaa", sum := "fc6d160e250add7fd646675e61e4b316918aa0f905d716c2cc5161931460d713", func := "antiphon/antiphonlaw08.ExtendKeeps", spec := "extendKeeps", apart := false, narrowed := true }
def ExtendKeepsUptoSaid : Prop := extendKeepsUptoRow.holds Try.pinned (OpenSpec.upto extendKeepsSpec)

/-- 'antiphonlaw08.ExtendJumps', WHERE WHAT IT READS IS OF BULK AT MOST 1048576: true; the input reads as it did. -/
def extendJumpsUptoRow : OpenClaim := { program := "ytgijkakmbcnlhaa", sum := "fc6d160e250add7fd646675e61e4b316918aa0f905d716c2cc5161931460d713", func := "antiphon/antiphonlaw08.ExtendJumps", spec := "extendJumps", apart := false, narrowed := true }
def ExtendJumpsUptoSaid : Prop := extendJumpsUptoRow.holds Try.pinned (OpenSpec.upto extendJumpsSpec)

/-- 'antiphonlaw08.ExtendTwo', WHERE WHAT IT READS IS OF BULK AT MOST 1048576: true; the input reads as it did. -/
def extendTwoUptoRow : OpenClaim := { program := "ytgijkakmbcnlhaa", sum := "fc6d160e250add7fd646675e61e4b316918aa0f905d716c2cc5161931460d713", func := "antiphon/antiphonlaw08.ExtendTwo", spec := "extendTwo", apart := false, narrowed := true }
def ExtendTwoUptoSaid : Prop := extendTwoUptoRow.holds Try.pinned (OpenSpec.upto extendTwoSpec)

/-- 'antiphonlaw08.ExtendTimes', WHERE WHAT IT READS IS OF BULK AT MOST 1048576: true; the input reads as it did. -/
def extendTimesUptoRow : OpenClaim := { program := "ytgijkakmbcnlhaa", sum := "fc6d160e250add7fd646675e61e4b316918aa0f905d716c2cc5161931460d713", func := "antiphon/antiphonlaw08.ExtendTimes", spec := "extendTimes", apart := false, narrowed := true }
def ExtendTimesUptoSaid : Prop := extendTimesUptoRow.holds Try.pinned (OpenSpec.upto extendTimesSpec)

end Rows
end Go.Proofs.Ytgijkakmbcnlhaa
