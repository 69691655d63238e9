/-
  No cell of these rows narrows 'for every input' (looked for: loops, veiled, ifaces, maps, wideKeys, modest, calm, conditions, laid).
  DERIVED. THE GIVEN ROWS OF THIS SEAT. 10 by the template 'for every input the law returns true; each argument reads behind the call as it read before'; 0 by the template 'total and deterministic' (their statements: YtbhegdlpmeeekaaTotals.lean).
  GIVEN WITH THE SEED: the statements are not yours to turn. If you find one false, say at which input.
  Laid BY PROGRAM, IN A SANDBOX (cutbox-rows.mjs): the forced cells as the released guide's own fill.sh prints them over the translation 74a93c8ea18f0ee2… (all of the seat's roots in one cut). By AI agents, Wed Nov 11 2026. No macro, syntax, notation, axiom, sorry.
-/
import Derived.Test.YtbhegdlpmeeekaaChecked
import GoSem.Claim
import GoSem.ClaimJoined
import GoSem.ClaimMapViews
import Derived.JoinedTies
import Derived.KernelRfl
namespace Go.Proofs.Ytbhegdlpmeeekaa
/- THE CELL 'sum', in the pinned program and in every row, IS THE sha256 OF THE DUMP (.gsa) THAT YtbhegdlpmeeekaaProg.lean LOADS. Nothing in Lean hashes anything: it is a label: what it is worth is what the hold of that sum in a sandbox is worth. -/
noncomputable def Try.pinned : Pinned := { name := "ytbhegdlpmeeekaa", sum := "74a93c8ea18f0ee29fecbe0b1fd6a5a2de6ca11b8687f238e850aaf6a3c5c235", checked := Try.checked }
namespace Rows
def none {H : Type} : Left H := { results := [], args := [] }

/-- 'antiphonlaw18.QueueMay': WHATEVER THE INPUT: true; the input reads as it did. -/
def queueMaySpec : ChangeSpec := { name := "queueMay", fn := fun _ => fun
  | [d1, d2] => { results := [.lit (.bool true)], args := [d1, d2] }
  | _ => none }
def queueMayRow : OpenClaim := { program := "ytbhegdlpmeeekaa", sum := "74a93c8ea18f0ee29fecbe0b1fd6a5a2de6ca11b8687f238e850aaf6a3c5c235", func := "antiphon/antiphonlaw18.QueueMay", spec := "queueMay", apart := false }
def QueueMaySaid : Prop := queueMayRow.holds Try.pinned (OpenSpec.ofChange queueMaySpec)

/-- ITS FALSE NEIGHBOUR: 'it returns false'. Refute it at one input. -/
def queueMayWrong : ChangeSpec := { name := "queueMay", fn := fun _ => fun
  | [d1, d2] => { results := [.lit (.bool false)], args := [d1, d2] }
  | _ => none }
def QueueMayWrongFalsely : Prop := queueMayRow.holds Try.pinned (OpenSpec.ofChange queueMayWrong)

/-- 'antiphonlaw18.QueueWhole': WHATEVER THE INPUT: true; the input reads as it did. -/
def queueWholeSpec : ChangeSpec := { name := "queueWhole", fn := fun _ => fun
  | [d1, d2, d3, d4] => { results := [.lit (.bool true)], args := [d1, d2, d3, d4] }
  | _ => none }
def queueWholeRow : OpenClaim := { program := "ytbhegdlpmeeekaa", sum := "74a93c8ea18f0ee29fecbe0b1fd6a5a2de6ca11b8687f238e850aaf6a3c5c235", func := "antiphon/antiphonlaw18.QueueWhole", spec := "queueWhole", apart := false }
def QueueWholeSaid : Prop := queueWholeRow.holds Try.pinned (OpenSpec.ofChange queueWholeSpec)

/-- ITS FALSE NEIGHBOUR: 'it returns false'. Refute it at one input. -/
def queueWholeWrong : ChangeSpec := { name := "queueWhole", fn := fun _ => fun
  | [d1, d2, d3, d4] => { results := [.lit (.bool false)], args := [d1, d2, d3, d4] }
  | _ => none }
def QueueWholeWrongFalsely : Prop := queueWholeRow.holds Try.pinned (OpenSpec.ofChange queueWholeWrong)

/-- 'antiphonlaw18.QueueKeys': WHATEVER THE INPUT: true; the input reads as it did. -/
def queueKeysSpec : ChangeSpec := { name := "queueKeys", fn := fun _ => fun
  | [d1, d2, d3, d4] => { results := [.lit (.bool true)], args := [d1, d2, d3, d4] }
  | _ => none }
def queueKeysRow : OpenClaim := { program := "ytbhegdlpmeeekaa", sum := "74a93c8ea18f0ee29fecbe0b1fd6a5a2de6ca11b8687f238e850aaf6a3c5c235", func := "antiphon/antiphonlaw18.QueueKeys", spec := "queueKeys", apart := false }
def QueueKeysSaid : Prop := queueKeysRow.holds Try.pinned (OpenSpec.ofChange queueKeysSpec)

/-- ITS FALSE NEIGHBOUR: 'it returns false'. Refute it at one input. -/
def queueKeysWrong : ChangeSpec := { name := "queueKeys", fn := fun _ => fun
  | [d1, d2, d3, d4] => { results := [.lit (.bool false)], args := [d1, d2, d3, d4] }
  | _ => none }
def QueueKeysWrongFalsely : Prop := queueKeysRow.holds Try.pinned (OpenSpec.ofChange queueKeysWrong)

/-- 'antiphonlaw18.QueueAge': WHATEVER THE INPUT: true; the input reads as it did. -/
def queueAgeSpec : ChangeSpec := { name := "queueAge", fn := fun _ => fun
  | [d1, d2, d3] => { results := [.lit (.bool true)], args := [d1, d2, d3] }
  | _ => none }
def queueAgeRow : OpenClaim := { program := "ytbhegdlpmeeekaa", sum := "74a93c8ea18f0ee29fecbe0b1fd6a5a2de6ca11b8687f238e850aaf6a3c5c235", func := "antiphon/antiphonlaw18.QueueAge", spec := "queueAge", apart := false }
def QueueAgeSaid : Prop := queueAgeRow.holds Try.pinned (OpenSpec.ofChange queueAgeSpec)

/-- ITS FALSE NEIGHBOUR: 'it returns false'. Refute it at one input. -/
def queueAgeWrong : ChangeSpec := { name := "queueAge", fn := fun _ => fun
  | [d1, d2, d3] => { results := [.lit (.bool false)], args := [d1, d2, d3] }
  | _ => none }
def QueueAgeWrongFalsely : Prop := queueAgeRow.holds Try.pinned (OpenSpec.ofChange queueAgeWrong)

/-- 'antiphonlaw18.QueuePlays': WHATEVER THE INPUT: true; the input reads as it did. -/
def queuePlaysSpec : ChangeSpec := { name := "queuePlays", fn := fun _ => fun
  | [d1, d2, d3, d4] => { results := [.lit (.bool true)], args := [d1, d2, d3, d4] }
  | _ => none }
def queuePlaysRow : OpenClaim := { program := "ytbhegdlpmeeekaa", sum := "74a93c8ea18f0ee29fecbe0b1fd6a5a2de6ca11b8687f238e850aaf6a3c5c235", func := "antiphon/antiphonlaw18.QueuePlays", spec := "queuePlays", apart := false }
def QueuePlaysSaid : Prop := queuePlaysRow.holds Try.pinned (OpenSpec.ofChange queuePlaysSpec)

/-- ITS FALSE NEIGHBOUR: 'it returns false'. Refute it at one input. -/
def queuePlaysWrong : ChangeSpec := { name := "queuePlays", fn := fun _ => fun
  | [d1, d2, d3, d4] => { results := [.lit (.bool false)], args := [d1, d2, d3, d4] }
  | _ => none }
def QueuePlaysWrongFalsely : Prop := queuePlaysRow.holds Try.pinned (OpenSpec.ofChange queuePlaysWrong)

/-- 'antiphonlaw02.OctetTakes': WHATEVER THE INPUT: true; the input reads as it did. -/
def octetTakesSpec : ChangeSpec := { name := "octetTakes", fn := fun _ => fun
  | [d1, d2] => { results := [.lit (.bool true)], args := [d1, d2] }
  | _ => none }
def octetTakesRow : OpenClaim := { program := "ytbhegdlpmeeekaa", sum := "74a93c8ea18f0ee29fecbe0b1fd6a5a2de6ca11b8687f238e850aaf6a3c5c235", func := "antiphon/antiphonlaw02.OctetTakes", spec := "octetTakes", inPlace := ["internal/abi.NoEscape"], apart := false }
def OctetTakesSaid : Prop := octetTakesRow.holds Try.pinned (OpenSpec.ofChange octetTakesSpec)

/-- ITS FALSE NEIGHBOUR: 'it returns false'. Refute it at one input. -/
def octetTakesWrong : ChangeSpec := { name := "octetTakes", fn := fun _ => fun
  | [d1, d2] => { results := [.lit (.bool false)], args := [d1, d2] }
  | _ => none }
def OctetTakesWrongFalsely : Prop := octetTakesRow.holds Try.pinned (OpenSpec.ofChange octetTakesWrong)

/-- 'antiphonlaw02.OctetStays': WHATEVER THE INPUT: true; the input reads as it did. -/
def octetStaysSpec : ChangeSpec := { name := "octetStays", fn := fun _ => fun
  | [d1, d2, d3] => { results := [.lit (.bool true)], args := [d1, d2, d3] }
  | _ => none }
def octetStaysRow : OpenClaim := { program := "ytbhegdlpmeeekaa", sum := "74a93c8ea18f0ee29fecbe0b1fd6a5a2de6ca11b8687f238e850aaf6a3c5c235", func := "antiphon/antiphonlaw02.OctetStays", spec := "octetStays", inPlace := ["internal/abi.NoEscape"], apart := false }
def OctetStaysSaid : Prop := octetStaysRow.holds Try.pinned (OpenSpec.ofChange octetStaysSpec)

/-- ITS FALSE NEIGHBOUR: 'it returns false'. Refute it at one input. -/
def octetStaysWrong : ChangeSpec := { name := "octetStays", fn := fun _ => fun
  | [d1, d2, d3] => { results := [.lit (.bool false)], args := [d1, d2, d3] }
  | _ => none }
def OctetStaysWrongFalsely : Prop := octetStaysRow.holds Try.pinned (OpenSpec.ofChange octetStaysWrong)

/-- 'antiphonlaw02.OctetParts': WHATEVER THE INPUT: true; the input reads as it did. -/
def octetPartsSpec : ChangeSpec := { name := "octetParts", fn := fun _ => fun
  | [d1, d2, d3] => { results := [.lit (.bool true)], args := [d1, d2, d3] }
  | _ => none }
def octetPartsRow : OpenClaim := { program := "ytbhegdlpmeeekaa", sum := "74a93c8ea18f0ee29fecbe0b1fd6a5a2de6ca11b8687f238e850aaf6a3c5c235", func := "antiphon/antiphonlaw02.OctetParts", spec := "octetParts", inPlace := ["internal/abi.NoEscape"], apart := false }
def OctetPartsSaid : Prop := octetPartsRow.holds Try.pinned (OpenSpec.ofChange octetPartsSpec)

/-- ITS FALSE NEIGHBOUR: 'it returns false'. Refute it at one input. -/
def octetPartsWrong : ChangeSpec := { name := "octetParts", fn := fun _ => fun
  | [d1, d2, d3] => { results := [.lit (.bool false)], args := [d1, d2, d3] }
  | _ => none }
def OctetPartsWrongFalsely : Prop := octetPartsRow.holds Try.pinned (OpenSpec.ofChange octetPartsWrong)

/-- 'antiphonlaw02.OctetBack': WHATEVER THE INPUT: true; the input reads as it did. -/
def octetBackSpec : ChangeSpec := { name := "octetBack", fn := fun _ => fun
  | [d1, d2, d3, d4, d5, d6] => { results := [.lit (.bool true)], args := [d1, d2, d3, d4, d5, d6] }
  | _ => none }
def octetBackRow : OpenClaim := { program := "ytbhegdlpmeeekaa", sum := "74a93c8ea18f0ee29fecbe0b1fd6a5a2de6ca11b8687f238e850aaf6a3c5c235", func := "antiphon/antiphonlaw02.OctetBack", spec := "octetBack", inPlace := ["internal/abi.NoEscape"], apart := false }
def OctetBackSaid : Prop := octetBackRow.holds Try.pinned (OpenSpec.ofChange octetBackSpec)

/-- ITS FALSE NEIGHBOUR: 'it returns false'. Refute it at one input. -/
def octetBackWrong : ChangeSpec := { name := "octetBack", fn := fun _ => fun
  | [d1, d2, d3, d4, d5, d6] => { results := [.lit (.bool false)], args := [d1, d2, d3, d4, d5, d6] }
  | _ => none }
def OctetBackWrongFalsely : Prop := octetBackRow.holds Try.pinned (OpenSpec.ofChange octetBackWrong)

/-- 'antiphonlaw02.OctetPuts': WHATEVER THE INPUT: true; the input reads as it did. -/
def octetPutsSpec : ChangeSpec := { name := "octetPuts", fn := fun _ => fun
  | [d1, d2, d3, d4] => { results := [.lit (.bool true)], args := [d1, d2, d3, d4] }
  | _ => none }
def octetPutsRow : OpenClaim := { program := "ytbhegdlpmeeekaa", sum := "74a93c8ea18f0ee29fecbe0b1fd6a5a2de6ca11b8687f238e850aaf6a3c5c235", func := "antiphon/antiphonlaw02.OctetPuts", spec := "octetPuts", inPlace := ["internal/abi.NoEscape"], apart := false }
def OctetPutsSaid : Prop := octetPutsRow.holds Try.pinned (OpenSpec.ofChange octetPutsSpec)

/-- ITS FALSE NEIGHBOUR: 'it returns false'. Refute it at one input. -/
def octetPutsWrong : ChangeSpec := { name := "octetPuts", fn := fun _ => fun
  | [d1, d2, d3, d4] => { results := [.lit (.bool false)], args := [d1, d2, d3, d4] }
  | _ => none }
def OctetPutsWrongFalsely : Prop := octetPutsRow.holds Try.pinned (OpenSpec.ofChange octetPutsWrong)

/- THE SECOND FORM. 'bulk': how many values and letters a reading holds, each counted each time it is reached (what is shared counts as often as it is met; a slice's spare places count too). A statement '..UptoSaid' is the law's where the arguments, and the package variables that the reading takes, are together of bulk at most 1048576: NARROWER than '..Said'. Prove '..Said' where nothing that the law and all that it calls make is longer than what came in: it says more and counts as full. Else prove '..UptoSaid'. A law counts once. -/
mutual
def uptoBulk {H : Type} : DataW H → Nat
  | .lit (.string bytes) => bytes.length + 1
  | .lit _ => 1
  | .nil => 1
  | .ptr d => uptoBulk d + 1
  | .slice elems spare => uptoBulkAll elems + uptoBulkAll spare + 1
  | .agg parts => uptoBulkAll parts + 1
  | .iface _ d => uptoBulk d + 1
  | .map entries => uptoBulkEntries entries + 1
  | .held _ => 1
def uptoBulkAll {H : Type} : List (DataW H) → Nat
  | [] => 0
  | d :: r => uptoBulk d + uptoBulkAll r
def uptoBulkEntries {H : Type} : List (Lit × DataW H) → Nat
  | [] => 0
  | x :: r => uptoBulkEntry x + uptoBulkEntries r
def uptoBulkEntry {H : Type} : Lit × DataW H → Nat
  | (.string bytes, d) => bytes.length + uptoBulk d + 1
  | (_, d) => uptoBulk d + 1
 end
def uptoSmall : (H : Type) → List (DataW H) → Bool := fun _ ds => decide (uptoBulkAll ds ≤ 1048576)
def OpenSpec.upto (s : _root_.Go.ChangeSpec) : _root_.Go.OpenSpec := { _root_.Go.OpenSpec.ofChange s with cond := some uptoSmall }

/-- 'antiphonlaw18.QueueMay', WHERE WHAT IT READS IS OF BULK AT MOST 1048576: true; the input reads as it did. -/
def queueMayUptoRow : OpenClaim := { program := "ytbhegdlpmeeekaa", sum := "74a93c8ea18f0ee29fecbe0b1fd6a5a2de6ca11b8687f238e850aaf6a3c5c235", func := "antiphon/antiphonlaw18.QueueMay", spec := "queueMay", apart := false, narrowed := true }
def QueueMayUptoSaid : Prop := queueMayUptoRow.holds Try.pinned (OpenSpec.upto queueMaySpec)

/-- 'antiphonlaw18.QueueWhole', WHERE WHAT IT READS IS OF BULK AT MOST 1048576: true; the input reads as it did. -/
def queueWholeUptoRow : OpenClaim := { program := "ytbhegdlpmeeekaa", sum := "74a93c8ea18f0ee29fecbe0b1fd6a5a2de6ca11b8687f238e850aaf6a3c5c235", func := "antiphon/antiphonlaw18.QueueWhole", spec := "queueWhole", apart := false, narrowed := true }
def QueueWholeUptoSaid : Prop := queueWholeUptoRow.holds Try.pinned (OpenSpec.upto queueWholeSpec)

/-- 'antiphonlaw18.QueueKeys', WHERE WHAT IT READS IS OF BULK AT MOST 1048576: true; the input reads as it did. -/
def queueKeysUptoRow : OpenClaim := { program := "ytbhegdlpmeeekaa", sum := "74a93c8ea18f0ee29fecbe0b1fd6a5a2de6ca11b8687f238e850aaf6a3c5c235", func := "antiphon/antiphonlaw18.QueueKeys", spec := "queueKeys", apart := false, narrowed := true }
def QueueKeysUptoSaid : Prop := queueKeysUptoRow.holds Try.pinned (OpenSpec.upto queueKeysSpec)

/-- 'antiphonlaw18.QueueAge', WHERE WHAT IT READS IS OF BULK AT MOST 1048576: true; the input reads as it did. -/
def queueAgeUptoRow : OpenClaim := { program := "ytbhegdlpmeeekaa", sum := "74a93c8ea18f0ee29fecbe0b1fd6a5a2de6ca11b8687f238e850aaf6a3c5c235", func := "antiphon/antiphonlaw18.QueueAge", spec := "queueAge", apart := false, narrowed := true }
def QueueAgeUptoSaid : Prop := queueAgeUptoRow.holds Try.pinned (OpenSpec.upto queueAgeSpec)

/-- 'antiphonlaw18.QueuePlays', WHERE WHAT IT READS IS OF BULK AT MOST 1048576: true; the input reads as it did. -/
def queuePlaysUptoRow : OpenClaim := { program := "ytbhegdlpmeeekaa", sum := "74a93c8ea18f0ee29fecbe0b1fd6a5a2de6ca11b8687f238e850aaf6a3c5c235", func := "antiphon/antiphonlaw18.QueuePlays", spec := "queuePlays", apart := false, narrowed := true }
def QueuePlaysUptoSaid : Prop := queuePlaysUptoRow.holds Try.pinned (OpenSpec.upto queuePlaysSpec)

/-- 'antiphonlaw02.OctetTakes', WHERE WHAT IT READS IS OF BULK AT MOST 1048576: true; the input reads as it did. -/
def octetTakesUptoRow : OpenClaim := { program := "ytbhegdlpmeeekaa", sum := "74a93c8ea18f0ee29fecbe0b1fd6a5a2de6ca11b8687f238e850aaf6a3c5c235", func := "antiphon/antiphonlaw02.OctetTakes", spec := "octetTakes", inPlace := ["internal/abi.NoEscape"], apart := false, narrowed := true }
def OctetTakesUptoSaid : Prop := octetTakesUptoRow.holds Try.pinned (OpenSpec.upto octetTakesSpec)

/-- 'antiphonlaw02.OctetStays', WHERE WHAT IT READS IS OF BULK AT MOST 1048576: true; the input reads as it did. -/
def octetStaysUptoRow : OpenClaim := { program := "ytbhegdlpmeeekaa", sum := "74a93c8ea18f0ee29fecbe0b1fd6a5a2de6ca11b8687f238e850aaf6a3c5c235", func := "antiphon/antiphonlaw02.OctetStays", spec := "octetStays", inPlace := ["internal/abi.NoEscape"], apart := false, narrowed := true }
def OctetStaysUptoSaid : Prop := octetStaysUptoRow.holds Try.pinned (OpenSpec.upto octetStaysSpec)

/-- 'antiphonlaw02.OctetParts', WHERE WHAT IT READS IS OF BULK AT MOST 1048576: true; the input reads as it did. -/
def octetPartsUptoRow : OpenClaim := { program := "ytbhegdlpmeeekaa", sum := "74a93c8ea18f0ee29fecbe0b1fd6a5a2de6ca11b8687f238e850aaf6a3c5c235", func := "antiphon/antiphonlaw02.OctetParts", spec := "octetParts", inPlace := ["internal/abi.NoEscape"], apart := false, narrowed := true }
def OctetPartsUptoSaid : Prop := octetPartsUptoRow.holds Try.pinned (OpenSpec.upto octetPartsSpec)

/-- 'antiphonlaw02.OctetBack', WHERE WHAT IT READS IS OF BULK AT MOST 1048576: true; the input reads as it did. -/
def octetBackUptoRow : OpenClaim := { program := "ytbhegdlpmeeekaa", sum := "74a93c8ea18f0ee29fecbe0b1fd6a5a2de6ca11b8687f238e850aaf6a3c5c235", func := "antiphon/antiphonlaw02.OctetBack", spec := "octetBack", inPlace := ["internal/abi.NoEscape"], apart := false, narrowed := true }
def OctetBackUptoSaid : Prop := octetBackUptoRow.holds Try.pinned (OpenSpec.upto octetBackSpec)

/-- 'antiphonlaw02.OctetPuts', WHERE WHAT IT READS IS OF BULK AT MOST 1048576: true; the input reads as it did. -/
def octetPutsUptoRow : OpenClaim := { program := "ytbhegdlpmeeekaa", sum := "74a93c8ea18f0ee29fecbe0b1fd6a5a2de6ca11b8687f238e850aaf6a3c5c235", func := "antiphon/antiphonlaw02.OctetPuts", spec := "octetPuts", inPlace := ["internal/abi.NoEscape"], apart := false, narrowed := true }
def OctetPutsUptoSaid : Prop := octetPutsUptoRow.holds Try.pinned (OpenSpec.upto octetPutsSpec)

end Rows
end Go.Proofs.Ytbhegdlpmeeekaa
