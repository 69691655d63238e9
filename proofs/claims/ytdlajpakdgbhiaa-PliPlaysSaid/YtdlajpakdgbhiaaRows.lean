/-
  No cell of these rows narrows 'for every input' (looked for: loops, veiled, ifaces, maps, wideKeys, modest, calm, conditions, laid).
  DERIVED. THE GIVEN ROWS OF THIS SEAT. 12 by the template 'for every input the law returns true; each argument reads behind the call as it read before'; 0 by the template 'total and deterministic' (their statements: YtdlajpakdgbhiaaTotals.lean).
  GIVEN WITH THE SEED: the statements are not yours to turn. If you find one false, say at which input.
  Laid BY PROGRAM, IN A SANDBOX (cutbox-rows.mjs): the forced cells as the released guide's own fill.sh prints them over the translation bca801e5d8ab2bd3… (all of the seat's roots in one cut). By AI agents, Wed Nov 11 2026. No macro, syntax, notation, axiom, sorry.
-/
import Derived.Test.YtdlajpakdgbhiaaChecked
import GoSem.Claim
import GoSem.ClaimJoined
import GoSem.ClaimMapViews
import Derived.JoinedTies
import Derived.KernelRfl
namespace Go.Proofs.Ytdlajpakdgbhiaa
/- THE CELL 'sum', in the pinned program and in every row, IS THE sha256 OF THE DUMP (.gsa) THAT YtdlajpakdgbhiaaProg.lean LOADS. Nothing in Lean hashes anything: it is a label: what it is worth is what the hold of that sum in a sandbox is worth. -/
noncomputable def Try.pinned : Pinned := { name := "ytdlajpakdgbhiaa", sum := "bca801e5d8ab2bd331d7ce2d78cadaae8de0bbc3d295500f15d86e98ff902426", checked := Try.checked }
namespace Rows
def none {H : Type} : Left H := { results := [], args := [] }

/-- 'antiphonlaw24.RateSteady': WHATEVER THE INPUT: true; the input reads as it did. -/
def rateSteadySpec : ChangeSpec := { name := "rateSteady", fn := fun _ => fun
  | [d1, d2, d3] => { results := [.lit (.bool true)], args := [d1, d2, d3] }
  | _ => none }
def rateSteadyRow : OpenClaim := { program := "ytdlajpakdgbhiaa", sum := "bca801e5d8ab2bd331d7ce2d78cadaae8de0bbc3d295500f15d86e98ff902426", func := "antiphon/antiphonlaw24.RateSteady", spec := "rateSteady", apart := false }
def RateSteadySaid : Prop := rateSteadyRow.holds Try.pinned (OpenSpec.ofChange rateSteadySpec)

/-- ITS FALSE NEIGHBOUR: 'it returns false'. Refute it at one input. -/
def rateSteadyWrong : ChangeSpec := { name := "rateSteady", fn := fun _ => fun
  | [d1, d2, d3] => { results := [.lit (.bool false)], args := [d1, d2, d3] }
  | _ => none }
def RateSteadyWrongFalsely : Prop := rateSteadyRow.holds Try.pinned (OpenSpec.ofChange rateSteadyWrong)

/-- 'antiphonlaw24.RateMay': WHATEVER THE INPUT: true; the input reads as it did. -/
def rateMaySpec : ChangeSpec := { name := "rateMay", fn := fun _ => fun
  | [d] => { results := [.lit (.bool true)], args := [d] }
  | _ => none }
def rateMayRow : OpenClaim := { program := "ytdlajpakdgbhiaa", sum := "bca801e5d8ab2bd331d7ce2d78cadaae8de0bbc3d295500f15d86e98ff902426", func := "antiphon/antiphonlaw24.RateMay", spec := "rateMay", apart := false }
def RateMaySaid : Prop := rateMayRow.holds Try.pinned (OpenSpec.ofChange rateMaySpec)

/-- ITS FALSE NEIGHBOUR: 'it returns false'. Refute it at one input. -/
def rateMayWrong : ChangeSpec := { name := "rateMay", fn := fun _ => fun
  | [d] => { results := [.lit (.bool false)], args := [d] }
  | _ => none }
def RateMayWrongFalsely : Prop := rateMayRow.holds Try.pinned (OpenSpec.ofChange rateMayWrong)

/-- 'antiphonlaw21.PliMay': WHATEVER THE INPUT: true; the input reads as it did. -/
def pliMaySpec : ChangeSpec := { name := "pliMay", fn := fun _ => fun
  | [d1, d2] => { results := [.lit (.bool true)], args := [d1, d2] }
  | _ => none }
def pliMayRow : OpenClaim := { program := "ytdlajpakdgbhiaa", sum := "bca801e5d8ab2bd331d7ce2d78cadaae8de0bbc3d295500f15d86e98ff902426", func := "antiphon/antiphonlaw21.PliMay", spec := "pliMay", apart := false }
def PliMaySaid : Prop := pliMayRow.holds Try.pinned (OpenSpec.ofChange pliMaySpec)

/-- ITS FALSE NEIGHBOUR: 'it returns false'. Refute it at one input. -/
def pliMayWrong : ChangeSpec := { name := "pliMay", fn := fun _ => fun
  | [d1, d2] => { results := [.lit (.bool false)], args := [d1, d2] }
  | _ => none }
def PliMayWrongFalsely : Prop := pliMayRow.holds Try.pinned (OpenSpec.ofChange pliMayWrong)

/-- 'antiphonlaw21.PliBackoff': WHATEVER THE INPUT: true; the input reads as it did. -/
def pliBackoffSpec : ChangeSpec := { name := "pliBackoff", fn := fun _ => fun
  | [d1, d2, d3] => { results := [.lit (.bool true)], args := [d1, d2, d3] }
  | _ => none }
def pliBackoffRow : OpenClaim := { program := "ytdlajpakdgbhiaa", sum := "bca801e5d8ab2bd331d7ce2d78cadaae8de0bbc3d295500f15d86e98ff902426", func := "antiphon/antiphonlaw21.PliBackoff", spec := "pliBackoff", apart := false }
def PliBackoffSaid : Prop := pliBackoffRow.holds Try.pinned (OpenSpec.ofChange pliBackoffSpec)

/-- ITS FALSE NEIGHBOUR: 'it returns false'. Refute it at one input. -/
def pliBackoffWrong : ChangeSpec := { name := "pliBackoff", fn := fun _ => fun
  | [d1, d2, d3] => { results := [.lit (.bool false)], args := [d1, d2, d3] }
  | _ => none }
def PliBackoffWrongFalsely : Prop := pliBackoffRow.holds Try.pinned (OpenSpec.ofChange pliBackoffWrong)

/-- 'antiphonlaw21.PliPlays': WHATEVER THE INPUT: true; the input reads as it did. -/
def pliPlaysSpec : ChangeSpec := { name := "pliPlays", fn := fun _ => fun
  | [d1, d2, d3] => { results := [.lit (.bool true)], args := [d1, d2, d3] }
  | _ => none }
def pliPlaysRow : OpenClaim := { program := "ytdlajpakdgbhiaa", sum := "bca801e5d8ab2bd331d7ce2d78cadaae8de0bbc3d295500f15d86e98ff902426", func := "antiphon/antiphonlaw21.PliPlays", spec := "pliPlays", apart := false }
def PliPlaysSaid : Prop := pliPlaysRow.holds Try.pinned (OpenSpec.ofChange pliPlaysSpec)

/-- ITS FALSE NEIGHBOUR: 'it returns false'. Refute it at one input. -/
def pliPlaysWrong : ChangeSpec := { name := "pliPlays", fn := fun _ => fun
  | [d1, d2, d3] => { results := [.lit (.bool false)], args := [d1, d2, d3] }
  | _ => none }
def PliPlaysWrongFalsely : Prop := pliPlaysRow.holds Try.pinned (OpenSpec.ofChange pliPlaysWrong)

/-- 'antiphonlaw21.PliAgain': WHATEVER THE INPUT: true; the input reads as it did. -/
def pliAgainSpec : ChangeSpec := { name := "pliAgain", fn := fun _ => fun
  | [d1, d2, d3] => { results := [.lit (.bool true)], args := [d1, d2, d3] }
  | _ => none }
def pliAgainRow : OpenClaim := { program := "ytdlajpakdgbhiaa", sum := "bca801e5d8ab2bd331d7ce2d78cadaae8de0bbc3d295500f15d86e98ff902426", func := "antiphon/antiphonlaw21.PliAgain", spec := "pliAgain", apart := false }
def PliAgainSaid : Prop := pliAgainRow.holds Try.pinned (OpenSpec.ofChange pliAgainSpec)

/-- ITS FALSE NEIGHBOUR: 'it returns false'. Refute it at one input. -/
def pliAgainWrong : ChangeSpec := { name := "pliAgain", fn := fun _ => fun
  | [d1, d2, d3] => { results := [.lit (.bool false)], args := [d1, d2, d3] }
  | _ => none }
def PliAgainWrongFalsely : Prop := pliAgainRow.holds Try.pinned (OpenSpec.ofChange pliAgainWrong)

/-- 'antiphonlaw22.StallMay': WHATEVER THE INPUT: true; the input reads as it did. -/
def stallMaySpec : ChangeSpec := { name := "stallMay", fn := fun _ => fun
  | [d1, d2] => { results := [.lit (.bool true)], args := [d1, d2] }
  | _ => none }
def stallMayRow : OpenClaim := { program := "ytdlajpakdgbhiaa", sum := "bca801e5d8ab2bd331d7ce2d78cadaae8de0bbc3d295500f15d86e98ff902426", func := "antiphon/antiphonlaw22.StallMay", spec := "stallMay", apart := false }
def StallMaySaid : Prop := stallMayRow.holds Try.pinned (OpenSpec.ofChange stallMaySpec)

/-- ITS FALSE NEIGHBOUR: 'it returns false'. Refute it at one input. -/
def stallMayWrong : ChangeSpec := { name := "stallMay", fn := fun _ => fun
  | [d1, d2] => { results := [.lit (.bool false)], args := [d1, d2] }
  | _ => none }
def StallMayWrongFalsely : Prop := stallMayRow.holds Try.pinned (OpenSpec.ofChange stallMayWrong)

/-- 'antiphonlaw22.StallPlays': WHATEVER THE INPUT: true; the input reads as it did. -/
def stallPlaysSpec : ChangeSpec := { name := "stallPlays", fn := fun _ => fun
  | [d1, d2, d3] => { results := [.lit (.bool true)], args := [d1, d2, d3] }
  | _ => none }
def stallPlaysRow : OpenClaim := { program := "ytdlajpakdgbhiaa", sum := "bca801e5d8ab2bd331d7ce2d78cadaae8de0bbc3d295500f15d86e98ff902426", func := "antiphon/antiphonlaw22.StallPlays", spec := "stallPlays", apart := false }
def StallPlaysSaid : Prop := stallPlaysRow.holds Try.pinned (OpenSpec.ofChange stallPlaysSpec)

/-- ITS FALSE NEIGHBOUR: 'it returns false'. Refute it at one input. -/
def stallPlaysWrong : ChangeSpec := { name := "stallPlays", fn := fun _ => fun
  | [d1, d2, d3] => { results := [.lit (.bool false)], args := [d1, d2, d3] }
  | _ => none }
def StallPlaysWrongFalsely : Prop := stallPlaysRow.holds Try.pinned (OpenSpec.ofChange stallPlaysWrong)

/-- 'antiphonlaw22.StallNever': WHATEVER THE INPUT: true; the input reads as it did. -/
def stallNeverSpec : ChangeSpec := { name := "stallNever", fn := fun _ => fun
  | [d1, d2] => { results := [.lit (.bool true)], args := [d1, d2] }
  | _ => none }
def stallNeverRow : OpenClaim := { program := "ytdlajpakdgbhiaa", sum := "bca801e5d8ab2bd331d7ce2d78cadaae8de0bbc3d295500f15d86e98ff902426", func := "antiphon/antiphonlaw22.StallNever", spec := "stallNever", apart := false }
def StallNeverSaid : Prop := stallNeverRow.holds Try.pinned (OpenSpec.ofChange stallNeverSpec)

/-- ITS FALSE NEIGHBOUR: 'it returns false'. Refute it at one input. -/
def stallNeverWrong : ChangeSpec := { name := "stallNever", fn := fun _ => fun
  | [d1, d2] => { results := [.lit (.bool false)], args := [d1, d2] }
  | _ => none }
def StallNeverWrongFalsely : Prop := stallNeverRow.holds Try.pinned (OpenSpec.ofChange stallNeverWrong)

/-- 'antiphonlaw22.StallEnds': WHATEVER THE INPUT: true; the input reads as it did. -/
def stallEndsSpec : ChangeSpec := { name := "stallEnds", fn := fun _ => fun
  | [d1, d2, d3] => { results := [.lit (.bool true)], args := [d1, d2, d3] }
  | _ => none }
def stallEndsRow : OpenClaim := { program := "ytdlajpakdgbhiaa", sum := "bca801e5d8ab2bd331d7ce2d78cadaae8de0bbc3d295500f15d86e98ff902426", func := "antiphon/antiphonlaw22.StallEnds", spec := "stallEnds", apart := false }
def StallEndsSaid : Prop := stallEndsRow.holds Try.pinned (OpenSpec.ofChange stallEndsSpec)

/-- ITS FALSE NEIGHBOUR: 'it returns false'. Refute it at one input. -/
def stallEndsWrong : ChangeSpec := { name := "stallEnds", fn := fun _ => fun
  | [d1, d2, d3] => { results := [.lit (.bool false)], args := [d1, d2, d3] }
  | _ => none }
def StallEndsWrongFalsely : Prop := stallEndsRow.holds Try.pinned (OpenSpec.ofChange stallEndsWrong)

/-- 'antiphonlaw24.RatePlays': WHATEVER THE INPUT: true; the input reads as it did. -/
def ratePlaysSpec : ChangeSpec := { name := "ratePlays", fn := fun _ => fun
  | [d1, d2] => { results := [.lit (.bool true)], args := [d1, d2] }
  | _ => none }
def ratePlaysRow : OpenClaim := { program := "ytdlajpakdgbhiaa", sum := "bca801e5d8ab2bd331d7ce2d78cadaae8de0bbc3d295500f15d86e98ff902426", func := "antiphon/antiphonlaw24.RatePlays", spec := "ratePlays", apart := false }
def RatePlaysSaid : Prop := ratePlaysRow.holds Try.pinned (OpenSpec.ofChange ratePlaysSpec)

/-- ITS FALSE NEIGHBOUR: 'it returns false'. Refute it at one input. -/
def ratePlaysWrong : ChangeSpec := { name := "ratePlays", fn := fun _ => fun
  | [d1, d2] => { results := [.lit (.bool false)], args := [d1, d2] }
  | _ => none }
def RatePlaysWrongFalsely : Prop := ratePlaysRow.holds Try.pinned (OpenSpec.ofChange ratePlaysWrong)

/-- 'antiphonlaw24.RateCap': WHATEVER THE INPUT: true; the input reads as it did. -/
def rateCapSpec : ChangeSpec := { name := "rateCap", fn := fun _ => fun
  | [d1, d2, d3] => { results := [.lit (.bool true)], args := [d1, d2, d3] }
  | _ => none }
def rateCapRow : OpenClaim := { program := "ytdlajpakdgbhiaa", sum := "bca801e5d8ab2bd331d7ce2d78cadaae8de0bbc3d295500f15d86e98ff902426", func := "antiphon/antiphonlaw24.RateCap", spec := "rateCap", apart := false }
def RateCapSaid : Prop := rateCapRow.holds Try.pinned (OpenSpec.ofChange rateCapSpec)

/-- ITS FALSE NEIGHBOUR: 'it returns false'. Refute it at one input. -/
def rateCapWrong : ChangeSpec := { name := "rateCap", fn := fun _ => fun
  | [d1, d2, d3] => { results := [.lit (.bool false)], args := [d1, d2, d3] }
  | _ => none }
def RateCapWrongFalsely : Prop := rateCapRow.holds Try.pinned (OpenSpec.ofChange rateCapWrong)

/- THE SECOND FORM. 'bulk': how many values and letters a reading holds, each counted each time it is reached (what is shared counts as often as it is met; a slice's spare places count too). A statement '..UptoSaid' is the law's where the arguments, and the package variables that the reading takes, are together of bulk at most 1048576: NARROWER than '..Said'. Prove '..Said' where nothing that the law and all that it calls make is longer than what came in: it says more and counts as full. Else prove '..UptoSaid'. A law counts once. -/
mutual
def uptoBulk {H : Type} : DataW H → Nat
  | .lit (.string bytes) => bytes.length + 1
  | .lit _ => 1
  | .nil => 1
  | .ptr d => uptoBulk d + 1
  | .slice elems spare => uptoBulkAll elems + uptoBulkAll spare + 1
  | .agg parts => uptoBulkAll parts + 1
  | .iface _ d => uptoBulk d + 1
  | .map entries => uptoBulkEntries entries + 1
  | .held _ => 1
def uptoBulkAll {H : Type} : List (DataW H) → Nat
  | [] => 0
  | d :: r => uptoBulk d + uptoBulkAll r
def uptoBulkEntries {H : Type} : List (Lit × DataW H) → Nat
  | [] => 0
  | x :: r => uptoBulkEntry x + uptoBulkEntries r
def uptoBulkEntry {H : Type} : Lit × DataW H → Nat
  | (.string bytes, d) => bytes.length + uptoBulk d + 1
  | (_, d) => uptoBulk d + 1
 end
def uptoSmall : (H : Type) → List (DataW H) → Bool := fun _ ds => decide (uptoBulkAll ds ≤ 1048576)
def OpenSpec.upto (s : _root_.Go.ChangeSpec) : _root_.Go.OpenSpec := { _root_.Go.OpenSpec.ofChange s with cond := some uptoSmall }

/-- 'antiphonlaw24.RateSteady', WHERE WHAT IT READS IS OF BULK AT MOST 1048576: true; the input reads as it did. -/
def rateSteadyUptoRow : OpenClaim := { program := "ytdlajpakdgbhiaa", sum := "bca801e5d8ab2bd331d7ce2d78cadaae8de0bbc3d295500f15d86e98ff902426", func := "antiphon/antiphonlaw24.RateSteady", spec := "rateSteady", apart := false, narrowed := true }
def RateSteadyUptoSaid : Prop := rateSteadyUptoRow.holds Try.pinned (OpenSpec.upto rateSteadySpec)

/-- 'antiphonlaw24.RateMay', WHERE WHAT IT READS IS OF BULK AT MOST 1048576: true; the input reads as it did. -/
def rateMayUptoRow : OpenClaim := { program := "ytdlajpakdgbhiaa", sum := "bca801e5d8ab2bd331d7ce2d78cadaae8de0bbc3d295500f15d86e98ff902426", func := "antiphon/antiphonlaw24.RateMay", spec := "rateMay", apart := false, narrowed := true }
def RateMayUptoSaid : Prop := rateMayUptoRow.holds Try.pinned (OpenSpec.upto rateMaySpec)

/-- 'antiphonlaw21.PliMay', WHERE WHAT IT READS IS OF BULK AT MOST 1048576: true; the input reads as it did. -/
def pliMayUptoRow : OpenClaim := { program := "ytdlajpakdgbhiaa", sum := "bca801e5d8ab2bd331d7ce2d78cadaae8de0bbc3d295500f15d86e98ff902426", func := "antiphon/antiphonlaw21.PliMay", spec := "pliMay", apart := false, narrowed := true }
def PliMayUptoSaid : Prop := pliMayUptoRow.holds Try.pinned (OpenSpec.upto pliMaySpec)

/-- 'antiphonlaw21.PliBackoff', WHERE WHAT IT READS IS OF BULK AT MOST 1048576: true; the input reads as it did. -/
def pliBackoffUptoRow : OpenClaim := { program := "ytdlajpakdgbhiaa", sum := "bca801e5d8ab2bd331d7ce2d78cadaae8de0bbc3d295500f15d86e98ff902426", func := "antiphon/antiphonlaw21.PliBackoff", spec := "pliBackoff", apart := false, narrowed := true }
def PliBackoffUptoSaid : Prop := pliBackoffUptoRow.holds Try.pinned (OpenSpec.upto pliBackoffSpec)

/-- 'antiphonlaw21.PliPlays', WHERE WHAT IT READS IS OF BULK AT MOST 1048576: true; the input reads as it did. -/
def pliPlaysUptoRow : OpenClaim := { program := "ytdlajpakdgbhiaa", sum := "bca801e5d8ab2bd331d7ce2d78cadaae8de0bbc3d295500f15d86e98ff902426", func := "antiphon/antiphonlaw21.PliPlays", spec := "pliPlays", apart := false, narrowed := true }
def PliPlaysUptoSaid : Prop := pliPlaysUptoRow.holds Try.pinned (OpenSpec.upto pliPlaysSpec)

/-- 'antiphonlaw21.PliAgain', WHERE WHAT IT READS IS OF BULK AT MOST 1048576: true; the input reads as it did. -/
def pliAgainUptoRow : OpenClaim := { program := "ytdlajpakdgbhiaa", sum := "bca801e5d8ab2bd331d7ce2d78cadaae8de0bbc3d295500f15d86e98ff902426", func := "antiphon/antiphonlaw21.PliAgain", spec := "pliAgain", apart := false, narrowed := true }
def PliAgainUptoSaid : Prop := pliAgainUptoRow.holds Try.pinned (OpenSpec.upto pliAgainSpec)

/-- 'antiphonlaw22.StallMay', WHERE WHAT IT READS IS OF BULK AT MOST 1048576: true; the input reads as it did. -/
def stallMayUptoRow : OpenClaim := { program := "ytdlajpakdgbhiaa", sum := "bca801e5d8ab2bd331d7ce2d78cadaae8de0bbc3d295500f15d86e98ff902426", func := "antiphon/antiphonlaw22.StallMay", spec := "stallMay", apart := false, narrowed := true }
def StallMayUptoSaid : Prop := stallMayUptoRow.holds Try.pinned (OpenSpec.upto stallMaySpec)

/-- 'antiphonlaw22.StallPlays', WHERE WHAT IT READS IS OF BULK AT MOST 1048576: true; the input reads as it did. -/
def stallPlaysUptoRow : OpenClaim := { program := "ytdlajpakdgbhiaa", sum := "bca801e5d8ab2bd331d7ce2d78cadaae8de0bbc3d295500f15d86e98ff902426", func := "antiphon/antiphonlaw22.StallPlays", spec := "stallPlays", apart := false, narrowed := true }
def StallPlaysUptoSaid : Prop := stallPlaysUptoRow.holds Try.pinned (OpenSpec.upto stallPlaysSpec)

/-- 'antiphonlaw22.StallNever', WHERE WHAT IT READS IS OF BULK AT MOST 1048576: true; the input reads as it did. -/
def stallNeverUptoRow : OpenClaim := { program := "ytdlajpakdgbhiaa", sum := "bca801e5d8ab2bd331d7ce2d78cadaae8de0bbc3d295500f15d86e98ff902426", func := "antiphon/antiphonlaw22.StallNever", spec := "stallNever", apart := false, narrowed := true }
def StallNeverUptoSaid : Prop := stallNeverUptoRow.holds Try.pinned (OpenSpec.upto stallNeverSpec)

/-- 'antiphonlaw22.StallEnds', WHERE WHAT IT READS IS OF BULK AT MOST 1048576: true; the input reads as it did. -/
def stallEndsUptoRow : OpenClaim := { program := "ytdlajpakdgbhiaa", sum := "bca801e5d8ab2bd331d7ce2d78cadaae8de0bbc3d295500f15d86e98ff902426", func := "antiphon/antiphonlaw22.StallEnds", spec := "stallEnds", apart := false, narrowed := true }
def StallEndsUptoSaid : Prop := stallEndsUptoRow.holds Try.pinned (OpenSpec.upto stallEndsSpec)

/-- 'antiphonlaw24.RatePlays', WHERE WHAT IT READS IS OF BULK AT MOST 1048576: true; the input reads as it did. -/
def ratePlaysUptoRow : OpenClaim := { program := "ytdlajpakdgbhiaa", sum := "bca801e5d8ab2bd331d7ce2d78cadaae8de0bbc3d295500f15d86e98ff902426", func := "antiphon/antiphonlaw24.RatePlays", spec := "ratePlays", apart := false, narrowed := true }
def RatePlaysUptoSaid : Prop := ratePlaysUptoRow.holds Try.pinned (OpenSpec.upto ratePlaysSpec)

/-- 'antiphonlaw24.RateCap', WHERE WHAT IT READS IS OF BULK AT MOST 1048576: true; the input reads as it did. -/
def rateCapUptoRow : OpenClaim := { program := "ytdlajpakdgbhiaa", sum := "bca801e5d8ab2bd331d7ce2d78cadaae8de0bbc3d295500f15d86e98ff902426", func := "antiphon/antiphonlaw24.RateCap", spec := "rateCap", apart := false, narrowed := true }
def RateCapUptoSaid : Prop := rateCapUptoRow.holds Try.pinned (OpenSpec.upto rateCapSpec)

end Rows
end Go.Proofs.Ytdlajpakdgbhiaa
