/-
  No cell of these rows narrows 'for every input' (looked for: loops, veiled, ifaces, maps, wideKeys, modest, calm, conditions, laid).
  DERIVED. THE GIVEN ROWS OF THIS SEAT. 12 by the template 'for every input the law returns true; each argument reads behind the call as it read before'; 0 by the template 'total and deterministic' (their statements: YtdjbdlfdknfcaaaTotals.lean).
  GIVEN WITH THE SEED: the statements are not yours to turn. If you find one false, say at which input.
  Laid BY PROGRAM, IN A SANDBOX (cutbox-rows.mjs): the forced cells as the released guide's own fill.sh prints them over the translation fef046180b7d8538… (all of the seat's roots in one cut). By AI agents, Wed Nov 11 2026. No macro, syntax, notation, axiom, sorry.
-/
import Derived.Test.YtdjbdlfdknfcaaaChecked
import GoSem.Claim
import GoSem.ClaimJoined
import GoSem.ClaimMapViews
import Derived.JoinedTies
import Derived.KernelRfl
namespace Go.Proofs.Ytdjbdlfdknfcaaa
/- THE CELL 'sum', in the pinned program and in every row, IS THE sha256 OF THE DUMP (.gsa) THAT YtdjbdlfdknfcaaaProg.lean LOADS. Nothing in Lean hashes anything: it is a label: what it is worth is what the hold of that sum in a sandbox is worth. -/
noncomputable def Try.pinned : Pinned := { name := "ytdjbdlfdknfcaaa", sum := "fef046180b7d8538cea1df2cba2619d02c13d2145c34f2205a40746a3b655c93", checked := Try.checked }
namespace Rows
def none {H : Type} : Left H := { results := [], args := [] }

/-- 'antiphonlaw14.GateKeys': WHATEVER THE INPUT: true; the input reads as it did. -/
def gateKeysSpec : ChangeSpec := { name := "gateKeys", fn := fun _ => fun
  | [d1, d2] => { results := [.lit (.bool true)], args := [d1, d2] }
  | _ => none }
def gateKeysRow : OpenClaim := { program := "ytdjbdlfdknfcaaa", sum := "fef046180b7d8538cea1df2cba2619d02c13d2145c34f2205a40746a3b655c93", func := "antiphon/antiphonlaw14.GateKeys", spec := "gateKeys", apart := false }
def GateKeysSaid : Prop := gateKeysRow.holds Try.pinned (OpenSpec.ofChange gateKeysSpec)

/-- ITS FALSE NEIGHBOUR: 'it returns false'. Refute it at one input. -/
def gateKeysWrong : ChangeSpec := { name := "gateKeys", fn := fun _ => fun
  | [d1, d2] => { results := [.lit (.bool false)], args := [d1, d2] }
  | _ => none }
def GateKeysWrongFalsely : Prop := gateKeysRow.holds Try.pinned (OpenSpec.ofChange gateKeysWrong)

/-- 'antiphonlaw14.GateTurns': WHATEVER THE INPUT: true; the input reads as it did. -/
def gateTurnsSpec : ChangeSpec := { name := "gateTurns", fn := fun _ => fun
  | [d1, d2, d3] => { results := [.lit (.bool true)], args := [d1, d2, d3] }
  | _ => none }
def gateTurnsRow : OpenClaim := { program := "ytdjbdlfdknfcaaa", sum := "fef046180b7d8538cea1df2cba2619d02c13d2145c34f2205a40746a3b655c93", func := "antiphon/antiphonlaw14.GateTurns", spec := "gateTurns", apart := false }
def GateTurnsSaid : Prop := gateTurnsRow.holds Try.pinned (OpenSpec.ofChange gateTurnsSpec)

/-- ITS FALSE NEIGHBOUR: 'it returns false'. Refute it at one input. -/
def gateTurnsWrong : ChangeSpec := { name := "gateTurns", fn := fun _ => fun
  | [d1, d2, d3] => { results := [.lit (.bool false)], args := [d1, d2, d3] }
  | _ => none }
def GateTurnsWrongFalsely : Prop := gateTurnsRow.holds Try.pinned (OpenSpec.ofChange gateTurnsWrong)

/-- 'antiphonlaw16.RingSame': WHATEVER THE INPUT: true; the input reads as it did. -/
def ringSameSpec : ChangeSpec := { name := "ringSame", fn := fun _ => fun
  | [d1, d2, d3, d4] => { results := [.lit (.bool true)], args := [d1, d2, d3, d4] }
  | _ => none }
def ringSameRow : OpenClaim := { program := "ytdjbdlfdknfcaaa", sum := "fef046180b7d8538cea1df2cba2619d02c13d2145c34f2205a40746a3b655c93", func := "antiphon/antiphonlaw16.RingSame", spec := "ringSame", apart := false }
def RingSameSaid : Prop := ringSameRow.holds Try.pinned (OpenSpec.ofChange ringSameSpec)

/-- ITS FALSE NEIGHBOUR: 'it returns false'. Refute it at one input. -/
def ringSameWrong : ChangeSpec := { name := "ringSame", fn := fun _ => fun
  | [d1, d2, d3, d4] => { results := [.lit (.bool false)], args := [d1, d2, d3, d4] }
  | _ => none }
def RingSameWrongFalsely : Prop := ringSameRow.holds Try.pinned (OpenSpec.ofChange ringSameWrong)

/-- 'antiphonlaw16.RingMay': WHATEVER THE INPUT: true; the input reads as it did. -/
def ringMaySpec : ChangeSpec := { name := "ringMay", fn := fun _ => fun
  | [d1, d2, d3] => { results := [.lit (.bool true)], args := [d1, d2, d3] }
  | _ => none }
def ringMayRow : OpenClaim := { program := "ytdjbdlfdknfcaaa", sum := "fef046180b7d8538cea1df2cba2619d02c13d2145c34f2205a40746a3b655c93", func := "antiphon/antiphonlaw16.RingMay", spec := "ringMay", apart := false }
def RingMaySaid : Prop := ringMayRow.holds Try.pinned (OpenSpec.ofChange ringMaySpec)

/-- ITS FALSE NEIGHBOUR: 'it returns false'. Refute it at one input. -/
def ringMayWrong : ChangeSpec := { name := "ringMay", fn := fun _ => fun
  | [d1, d2, d3] => { results := [.lit (.bool false)], args := [d1, d2, d3] }
  | _ => none }
def RingMayWrongFalsely : Prop := ringMayRow.holds Try.pinned (OpenSpec.ofChange ringMayWrong)

/-- 'antiphonlaw14.GatePaused': WHATEVER THE INPUT: true; the input reads as it did. -/
def gatePausedSpec : ChangeSpec := { name := "gatePaused", fn := fun _ => fun
  | [d1, d2] => { results := [.lit (.bool true)], args := [d1, d2] }
  | _ => none }
def gatePausedRow : OpenClaim := { program := "ytdjbdlfdknfcaaa", sum := "fef046180b7d8538cea1df2cba2619d02c13d2145c34f2205a40746a3b655c93", func := "antiphon/antiphonlaw14.GatePaused", spec := "gatePaused", apart := false }
def GatePausedSaid : Prop := gatePausedRow.holds Try.pinned (OpenSpec.ofChange gatePausedSpec)

/-- ITS FALSE NEIGHBOUR: 'it returns false'. Refute it at one input. -/
def gatePausedWrong : ChangeSpec := { name := "gatePaused", fn := fun _ => fun
  | [d1, d2] => { results := [.lit (.bool false)], args := [d1, d2] }
  | _ => none }
def GatePausedWrongFalsely : Prop := gatePausedRow.holds Try.pinned (OpenSpec.ofChange gatePausedWrong)

/-- 'antiphonlaw14.GateSounds': WHATEVER THE INPUT: true; the input reads as it did. -/
def gateSoundsSpec : ChangeSpec := { name := "gateSounds", fn := fun _ => fun
  | [d] => { results := [.lit (.bool true)], args := [d] }
  | _ => none }
def gateSoundsRow : OpenClaim := { program := "ytdjbdlfdknfcaaa", sum := "fef046180b7d8538cea1df2cba2619d02c13d2145c34f2205a40746a3b655c93", func := "antiphon/antiphonlaw14.GateSounds", spec := "gateSounds", apart := false }
def GateSoundsSaid : Prop := gateSoundsRow.holds Try.pinned (OpenSpec.ofChange gateSoundsSpec)

/-- ITS FALSE NEIGHBOUR: 'it returns false'. Refute it at one input. -/
def gateSoundsWrong : ChangeSpec := { name := "gateSounds", fn := fun _ => fun
  | [d] => { results := [.lit (.bool false)], args := [d] }
  | _ => none }
def GateSoundsWrongFalsely : Prop := gateSoundsRow.holds Try.pinned (OpenSpec.ofChange gateSoundsWrong)

/-- 'antiphonlaw25.LedgerWords': WHATEVER THE INPUT: true; the input reads as it did. -/
def ledgerWordsSpec : ChangeSpec := { name := "ledgerWords", fn := fun _ => fun
  | [d] => { results := [.lit (.bool true)], args := [d] }
  | _ => none }
def ledgerWordsRow : OpenClaim := { program := "ytdjbdlfdknfcaaa", sum := "fef046180b7d8538cea1df2cba2619d02c13d2145c34f2205a40746a3b655c93", func := "antiphon/antiphonlaw25.LedgerWords", spec := "ledgerWords", apart := false }
def LedgerWordsSaid : Prop := ledgerWordsRow.holds Try.pinned (OpenSpec.ofChange ledgerWordsSpec)

/-- ITS FALSE NEIGHBOUR: 'it returns false'. Refute it at one input. -/
def ledgerWordsWrong : ChangeSpec := { name := "ledgerWords", fn := fun _ => fun
  | [d] => { results := [.lit (.bool false)], args := [d] }
  | _ => none }
def LedgerWordsWrongFalsely : Prop := ledgerWordsRow.holds Try.pinned (OpenSpec.ofChange ledgerWordsWrong)

/-- 'antiphonlaw16.RingEnds': WHATEVER THE INPUT: true; the input reads as it did. -/
def ringEndsSpec : ChangeSpec := { name := "ringEnds", fn := fun _ => fun
  | [d1, d2, d3, d4] => { results := [.lit (.bool true)], args := [d1, d2, d3, d4] }
  | _ => none }
def ringEndsRow : OpenClaim := { program := "ytdjbdlfdknfcaaa", sum := "fef046180b7d8538cea1df2cba2619d02c13d2145c34f2205a40746a3b655c93", func := "antiphon/antiphonlaw16.RingEnds", spec := "ringEnds", apart := false }
def RingEndsSaid : Prop := ringEndsRow.holds Try.pinned (OpenSpec.ofChange ringEndsSpec)

/-- ITS FALSE NEIGHBOUR: 'it returns false'. Refute it at one input. -/
def ringEndsWrong : ChangeSpec := { name := "ringEnds", fn := fun _ => fun
  | [d1, d2, d3, d4] => { results := [.lit (.bool false)], args := [d1, d2, d3, d4] }
  | _ => none }
def RingEndsWrongFalsely : Prop := ringEndsRow.holds Try.pinned (OpenSpec.ofChange ringEndsWrong)

/-- 'antiphonlaw25.LedgerLate': WHATEVER THE INPUT: true; the input reads as it did. -/
def ledgerLateSpec : ChangeSpec := { name := "ledgerLate", fn := fun _ => fun
  | [d1, d2, d3] => { results := [.lit (.bool true)], args := [d1, d2, d3] }
  | _ => none }
def ledgerLateRow : OpenClaim := { program := "ytdjbdlfdknfcaaa", sum := "fef046180b7d8538cea1df2cba2619d02c13d2145c34f2205a40746a3b655c93", func := "antiphon/antiphonlaw25.LedgerLate", spec := "ledgerLate", apart := false }
def LedgerLateSaid : Prop := ledgerLateRow.holds Try.pinned (OpenSpec.ofChange ledgerLateSpec)

/-- ITS FALSE NEIGHBOUR: 'it returns false'. Refute it at one input. -/
def ledgerLateWrong : ChangeSpec := { name := "ledgerLate", fn := fun _ => fun
  | [d1, d2, d3] => { results := [.lit (.bool false)], args := [d1, d2, d3] }
  | _ => none }
def LedgerLateWrongFalsely : Prop := ledgerLateRow.holds Try.pinned (OpenSpec.ofChange ledgerLateWrong)

/-- 'antiphonlaw25.LedgerEnds': WHATEVER THE INPUT: true; the input reads as it did. -/
def ledgerEndsSpec : ChangeSpec := { name := "ledgerEnds", fn := fun _ => fun
  | [d1, d2] => { results := [.lit (.bool true)], args := [d1, d2] }
  | _ => none }
def ledgerEndsRow : OpenClaim := { program := "ytdjbdlfdknfcaaa", sum := "fef046180b7d8538cea1df2cba2619d02c13d2145c34f2205a40746a3b655c93", func := "antiphon/antiphonlaw25.LedgerEnds", spec := "ledgerEnds", apart := false }
def LedgerEndsSaid : Prop := ledgerEndsRow.holds Try.pinned (OpenSpec.ofChange ledgerEndsSpec)

/-- ITS FALSE NEIGHBOUR: 'it returns false'. Refute it at one input. -/
def ledgerEndsWrong : ChangeSpec := { name := "ledgerEnds", fn := fun _ => fun
  | [d1, d2] => { results := [.lit (.bool false)], args := [d1, d2] }
  | _ => none }
def LedgerEndsWrongFalsely : Prop := ledgerEndsRow.holds Try.pinned (OpenSpec.ofChange ledgerEndsWrong)

/-- 'antiphonlaw16.RingPlays': WHATEVER THE INPUT: true; the input reads as it did. -/
def ringPlaysSpec : ChangeSpec := { name := "ringPlays", fn := fun _ => fun
  | [d1, d2, d3, d4] => { results := [.lit (.bool true)], args := [d1, d2, d3, d4] }
  | _ => none }
def ringPlaysRow : OpenClaim := { program := "ytdjbdlfdknfcaaa", sum := "fef046180b7d8538cea1df2cba2619d02c13d2145c34f2205a40746a3b655c93", func := "antiphon/antiphonlaw16.RingPlays", spec := "ringPlays", apart := false }
def RingPlaysSaid : Prop := ringPlaysRow.holds Try.pinned (OpenSpec.ofChange ringPlaysSpec)

/-- ITS FALSE NEIGHBOUR: 'it returns false'. Refute it at one input. -/
def ringPlaysWrong : ChangeSpec := { name := "ringPlays", fn := fun _ => fun
  | [d1, d2, d3, d4] => { results := [.lit (.bool false)], args := [d1, d2, d3, d4] }
  | _ => none }
def RingPlaysWrongFalsely : Prop := ringPlaysRow.holds Try.pinned (OpenSpec.ofChange ringPlaysWrong)

/-- 'antiphonlaw25.LedgerPlays': WHATEVER THE INPUT: true; the input reads as it did. -/
def ledgerPlaysSpec : ChangeSpec := { name := "ledgerPlays", fn := fun _ => fun
  | [d] => { results := [.lit (.bool true)], args := [d] }
  | _ => none }
def ledgerPlaysRow : OpenClaim := { program := "ytdjbdlfdknfcaaa", sum := "fef046180b7d8538cea1df2cba2619d02c13d2145c34f2205a40746a3b655c93", func := "antiphon/antiphonlaw25.LedgerPlays", spec := "ledgerPlays", apart := false }
def LedgerPlaysSaid : Prop := ledgerPlaysRow.holds Try.pinned (OpenSpec.ofChange ledgerPlaysSpec)

/-- ITS FALSE NEIGHBOUR: 'it returns false'. Refute it at one input. -/
def ledgerPlaysWrong : ChangeSpec := { name := "ledgerPlays", fn := fun _ => fun
  | [d] => { results := [.lit (.bool false)], args := [d] }
  | _ => none }
def LedgerPlaysWrongFalsely : Prop := ledgerPlaysRow.holds Try.pinned (OpenSpec.ofChange ledgerPlaysWrong)

/- THE SECOND FORM. 'bulk': how many values and letters a reading holds, each counted each time it is reached (what is shared counts as often as it is met; a slice's spare places count too). A statement '..UptoSaid' is the law's where the arguments, and the package variables that the reading takes, are together of bulk at most 1048576: NARROWER than '..Said'. Prove '..Said' where nothing that the law and all that it calls make is longer than what came in: it says more and counts as full. Else prove '..UptoSaid'. A law counts once. -/
mutual
def uptoBulk {H : Type} : DataW H → Nat
  | .lit (.string bytes) => bytes.length + 1
  | .lit _ => 1
  | .nil => 1
  | .ptr d => uptoBulk d + 1
  | .slice elems spare => uptoBulkAll elems + uptoBulkAll spare + 1
  | .agg parts => uptoBulkAll parts + 1
  | .iface _ d => uptoBulk d + 1
  | .map entries => uptoBulkEntries entries + 1
  | .held _ => 1
def uptoBulkAll {H : Type} : List (DataW H) → Nat
  | [] => 0
  | d :: r => uptoBulk d + uptoBulkAll r
def uptoBulkEntries {H : Type} : List (Lit × DataW H) → Nat
  | [] => 0
  | x :: r => uptoBulkEntry x + uptoBulkEntries r
def uptoBulkEntry {H : Type} : Lit × DataW H → Nat
  | (.string bytes, d) => bytes.length + uptoBulk d + 1
  | (_, d) => uptoBulk d + 1
 end
def uptoSmall : (H : Type) → List (DataW H) → Bool := fun _ ds => decide (uptoBulkAll ds ≤ 1048576)
def OpenSpec.upto (s : _root_.Go.ChangeSpec) : _root_.Go.OpenSpec := { _root_.Go.OpenSpec.ofChange s with cond := some uptoSmall }

/-- 'antiphonlaw14.GateKeys', WHERE WHAT IT READS IS OF BULK AT MOST 1048576: true; the input reads as it did. -/
def gateKeysUptoRow : OpenClaim := { program := "ytdjbdlfdknfcaaa", sum := "fef046180b7d8538cea1df2cba2619d02c13d2145c34f2205a40746a3b655c93", func := "antiphon/antiphonlaw14.GateKeys", spec := "gateKeys", apart := false, narrowed := true }
def GateKeysUptoSaid : Prop := gateKeysUptoRow.holds Try.pinned (OpenSpec.upto gateKeysSpec)

/-- 'antiphonlaw14.GateTurns', WHERE WHAT IT READS IS OF BULK AT MOST 1048576: true; the input reads as it did. -/
def gateTurnsUptoRow : OpenClaim := { program := "ytdjbdlfdknfcaaa", sum := "fef046180b7d8538cea1df2cba2619d02c13d2145c34f2205a40746a3b655c93", func := "antiphon/antiphonlaw14.GateTurns", spec := "gateTurns", apart := false, narrowed := true }
def GateTurnsUptoSaid : Prop := gateTurnsUptoRow.holds Try.pinned (OpenSpec.upto gateTurnsSpec)

/-- 'antiphonlaw16.RingSame', WHERE WHAT IT READS IS OF BULK AT MOST 1048576: true; the input reads as it did. -/
def ringSameUptoRow : OpenClaim := { program := "ytdjbdlfdknfcaaa", sum := "fef046180b7d8538cea1df2cba2619d02c13d2145c34f2205a40746a3b655c93", func := "antiphon/antiphonlaw16.RingSame", spec := "ringSame", apart := false, narrowed := true }
def RingSameUptoSaid : Prop := ringSameUptoRow.holds Try.pinned (OpenSpec.upto ringSameSpec)

/-- 'antiphonlaw16.RingMay', WHERE WHAT IT READS IS OF BULK AT MOST 1048576: true; the input reads as it did. -/
def ringMayUptoRow : OpenClaim := { program := "ytdjbdlfdknfcaaa", sum := "fef046180b7d8538cea1df2cba2619d02c13d2145c34f2205a40746a3b655c93", func := "antiphon/antiphonlaw16.RingMay", spec := "ringMay", apart := false, narrowed := true }
def RingMayUptoSaid : Prop := ringMayUptoRow.holds Try.pinned (OpenSpec.upto ringMaySpec)

/-- 'antiphonlaw14.GatePaused', WHERE WHAT IT READS IS OF BULK AT MOST 1048576: true; the input reads as it did. -/
def gatePausedUptoRow : OpenClaim := { program := "ytdjbdlfdknfcaaa", sum := "fef046180b7d8538cea1df2cba2619d02c13d2145c34f2205a40746a3b655c93", func := "antiphon/antiphonlaw14.GatePaused", spec := "gatePaused", apart := false, narrowed := true }
def GatePausedUptoSaid : Prop := gatePausedUptoRow.holds Try.pinned (OpenSpec.upto gatePausedSpec)

/-- 'antiphonlaw14.GateSounds', WHERE WHAT IT READS IS OF BULK AT MOST 1048576: true; the input reads as it did. -/
def gateSoundsUptoRow : OpenClaim := { program := "ytdjbdlfdknfcaaa", sum := "fef046180b7d8538cea1df2cba2619d02c13d2145c34f2205a40746a3b655c93", func := "antiphon/antiphonlaw14.GateSounds", spec := "gateSounds", apart := false, narrowed := true }
def GateSoundsUptoSaid : Prop := gateSoundsUptoRow.holds Try.pinned (OpenSpec.upto gateSoundsSpec)

/-- 'antiphonlaw25.LedgerWords', WHERE WHAT IT READS IS OF BULK AT MOST 1048576: true; the input reads as it did. -/
def ledgerWordsUptoRow : OpenClaim := { program := "ytdjbdlfdknfcaaa", sum := "fef046180b7d8538cea1df2cba2619d02c13d2145c34f2205a40746a3b655c93", func := "antiphon/antiphonlaw25.LedgerWords", spec := "ledgerWords", apart := false, narrowed := true }
def LedgerWordsUptoSaid : Prop := ledgerWordsUptoRow.holds Try.pinned (OpenSpec.upto ledgerWordsSpec)

/-- 'antiphonlaw16.RingEnds', WHERE WHAT IT READS IS OF BULK AT MOST 1048576: true; the input reads as it did. -/
def ringEndsUptoRow : OpenClaim := { program := "ytdjbdlfdknfcaaa", sum := "fef046180b7d8538cea1df2cba2619d02c13d2145c34f2205a40746a3b655c93", func := "antiphon/antiphonlaw16.RingEnds", spec := "ringEnds", apart := false, narrowed := true }
def RingEndsUptoSaid : Prop := ringEndsUptoRow.holds Try.pinned (OpenSpec.upto ringEndsSpec)

/-- 'antiphonlaw25.LedgerLate', WHERE WHAT IT READS IS OF BULK AT MOST 1048576: true; the input reads as it did. -/
def ledgerLateUptoRow : OpenClaim := { program := "ytdjbdlfdknfcaaa", sum := "fef046180b7d8538cea1df2cba2619d02c13d2145c34f2205a40746a3b655c93", func := "antiphon/antiphonlaw25.LedgerLate", spec := "ledgerLate", apart := false, narrowed := true }
def LedgerLateUptoSaid : Prop := ledgerLateUptoRow.holds Try.pinned (OpenSpec.upto ledgerLateSpec)

/-- 'antiphonlaw25.LedgerEnds', WHERE WHAT IT READS IS OF BULK AT MOST 1048576: true; the input reads as it did. -/
def ledgerEndsUptoRow : OpenClaim := { program := "ytdjbdlfdknfcaaa", sum := "fef046180b7d8538cea1df2cba2619d02c13d2145c34f2205a40746a3b655c93", func := "antiphon/antiphonlaw25.LedgerEnds", spec := "ledgerEnds", apart := false, narrowed := true }
def LedgerEndsUptoSaid : Prop := ledgerEndsUptoRow.holds Try.pinned (OpenSpec.upto ledgerEndsSpec)

/-- 'antiphonlaw16.RingPlays', WHERE WHAT IT READS IS OF BULK AT MOST 1048576: true; the input reads as it did. -/
def ringPlaysUptoRow : OpenClaim := { program := "ytdjbdlfdknfcaaa", sum := "fef046180b7d8538cea1df2cba2619d02c13d2145c34f2205a40746a3b655c93", func := "antiphon/antiphonlaw16.RingPlays", spec := "ringPlays", apart := false, narrowed := true }
def RingPlaysUptoSaid : Prop := ringPlaysUptoRow.holds Try.pinned (OpenSpec.upto ringPlaysSpec)

/-- 'antiphonlaw25.LedgerPlays', WHERE WHAT IT READS IS OF BULK AT MOST 1048576: true; the input reads as it did. -/
def ledgerPlaysUptoRow : OpenClaim := { program := "ytdjbdlfdknfcaaa", sum := "fef046180b7d8538cea1df2cba2619d02c13d2145c34f2205a40746a3b655c93", func := "antiphon/antiphonlaw25.LedgerPlays", spec := "ledgerPlays", apart := false, narrowed := true }
def LedgerPlaysUptoSaid : Prop := ledgerPlaysUptoRow.holds Try.pinned (OpenSpec.upto ledgerPlaysSpec)

end Rows
end Go.Proofs.Ytdjbdlfdknfcaaa
