/-
  No cell of these rows narrows 'for every input' (looked for: loops, veiled, ifaces, maps, wideKeys, modest, calm, conditions, laid).
  DERIVED. THE GIVEN ROWS OF THIS SEAT. 12 by the template 'for every input the law returns true; each argument reads behind the call as it read before'; 0 by the template 'total and deterministic' (their statements: YtojjeogpggielaaTotals.lean).
  GIVEN WITH THE SEED: the statements are not yours to turn. If you find one false, say at which input.
  Laid BY PROGRAM, IN A SANDBOX (cutbox-rows.mjs): the forced cells as the released guide's own fill.sh prints them over the translation d0cb414b93119fad… (all of the seat's roots in one cut). By AI agents, Wed Nov 11 2026. No macro, syntax, notation, axiom, sorry.
-/
import Derived.Test.YtojjeogpggielaaChecked
import GoSem.Claim
import GoSem.ClaimJoined
import GoSem.ClaimMapViews
import Derived.JoinedTies
import Derived.KernelRfl
namespace Go.Proofs.Ytojjeogpggielaa
/- THE CELL 'sum', in the pinned program and in every row, IS THE sha256 OF THE DUMP (.gsa) THAT YtojjeogpggielaaProg.lean LOADS. Nothing in Lean hashes anything: it is a label: what it is worth is what the hold of that sum in a sandbox is worth. -/
noncomputable def Try.pinned : Pinned := { name := "ytojjeogpggielaa", sum := "d0cb414b93119fad03de8fca4c65e9ba84d3114486d063c8d31dff539228d363", checked := Try.checked }
namespace Rows
def none {H : Type} : Left H := { results := [], args := [] }

/-- 'qanatlaw26.WindowTruth': WHATEVER THE INPUT: true; the input reads as it did. -/
def windowTruthSpec : ChangeSpec := { name := "windowTruth", fn := fun _ => fun
  | [d1, d2, d3, d4, d5] => { results := [.lit (.bool true)], args := [d1, d2, d3, d4, d5] }
  | _ => none }
def windowTruthRow : OpenClaim := { program := "ytojjeogpggielaa", sum := "d0cb414b93119fad03de8fca4c65e9ba84d3114486d063c8d31dff539228d363", func := "qanat/qanatlaw26.WindowTruth", spec := "windowTruth", unfollowed := true, recurses := true, apart := false }
def WindowTruthSaid : Prop := windowTruthRow.holds Try.pinned (OpenSpec.ofChange windowTruthSpec)

/-- ITS FALSE NEIGHBOUR: 'it returns false'. Refute it at one input. -/
def windowTruthWrong : ChangeSpec := { name := "windowTruth", fn := fun _ => fun
  | [d1, d2, d3, d4, d5] => { results := [.lit (.bool false)], args := [d1, d2, d3, d4, d5] }
  | _ => none }
def WindowTruthWrongFalsely : Prop := windowTruthRow.holds Try.pinned (OpenSpec.ofChange windowTruthWrong)

/-- 'qanatlaw26.WindowNews': WHATEVER THE INPUT: true; the input reads as it did. -/
def windowNewsSpec : ChangeSpec := { name := "windowNews", fn := fun _ => fun
  | [d1, d2, d3] => { results := [.lit (.bool true)], args := [d1, d2, d3] }
  | _ => none }
def windowNewsRow : OpenClaim := { program := "ytojjeogpggielaa", sum := "d0cb414b93119fad03de8fca4c65e9ba84d3114486d063c8d31dff539228d363", func := "qanat/qanatlaw26.WindowNews", spec := "windowNews", unfollowed := true, recurses := true, apart := false }
def WindowNewsSaid : Prop := windowNewsRow.holds Try.pinned (OpenSpec.ofChange windowNewsSpec)

/-- ITS FALSE NEIGHBOUR: 'it returns false'. Refute it at one input. -/
def windowNewsWrong : ChangeSpec := { name := "windowNews", fn := fun _ => fun
  | [d1, d2, d3] => { results := [.lit (.bool false)], args := [d1, d2, d3] }
  | _ => none }
def WindowNewsWrongFalsely : Prop := windowNewsRow.holds Try.pinned (OpenSpec.ofChange windowNewsWrong)

/-- 'qanatlaw26.WindowRound': WHATEVER THE INPUT: true; the input reads as it did. -/
def windowRoundSpec : ChangeSpec := { name := "windowRound", fn := fun _ => fun
  | [d1, d2] => { results := [.lit (.bool true)], args := [d1, d2] }
  | _ => none }
def windowRoundRow : OpenClaim := { program := "ytojjeogpggielaa", sum := "d0cb414b93119fad03de8fca4c65e9ba84d3114486d063c8d31dff539228d363", func := "qanat/qanatlaw26.WindowRound", spec := "windowRound", unfollowed := true, recurses := true, apart := false }
def WindowRoundSaid : Prop := windowRoundRow.holds Try.pinned (OpenSpec.ofChange windowRoundSpec)

/-- ITS FALSE NEIGHBOUR: 'it returns false'. Refute it at one input. -/
def windowRoundWrong : ChangeSpec := { name := "windowRound", fn := fun _ => fun
  | [d1, d2] => { results := [.lit (.bool false)], args := [d1, d2] }
  | _ => none }
def WindowRoundWrongFalsely : Prop := windowRoundRow.holds Try.pinned (OpenSpec.ofChange windowRoundWrong)

/-- 'qanatlaw26.WindowPlays': WHATEVER THE INPUT: true; the input reads as it did. -/
def windowPlaysSpec : ChangeSpec := { name := "windowPlays", fn := fun _ => fun
  | [d1, d2] => { results := [.lit (.bool true)], args := [d1, d2] }
  | _ => none }
def windowPlaysRow : OpenClaim := { program := "ytojjeogpggielaa", sum := "d0cb414b93119fad03de8fca4c65e9ba84d3114486d063c8d31dff539228d363", func := "qanat/qanatlaw26.WindowPlays", spec := "windowPlays", unfollowed := true, recurses := true, apart := false }
def WindowPlaysSaid : Prop := windowPlaysRow.holds Try.pinned (OpenSpec.ofChange windowPlaysSpec)

/-- ITS FALSE NEIGHBOUR: 'it returns false'. Refute it at one input. -/
def windowPlaysWrong : ChangeSpec := { name := "windowPlays", fn := fun _ => fun
  | [d1, d2] => { results := [.lit (.bool false)], args := [d1, d2] }
  | _ => none }
def WindowPlaysWrongFalsely : Prop := windowPlaysRow.holds Try.pinned (OpenSpec.ofChange windowPlaysWrong)

/-- 'qanatlaw13.SignalReads': WHATEVER THE INPUT: true; the input reads as it did. -/
def signalReadsSpec : ChangeSpec := { name := "signalReads", fn := fun _ => fun
  | [d1, d2] => { results := [.lit (.bool true)], args := [d1, d2] }
  | _ => none }
def signalReadsRow : OpenClaim := { program := "ytojjeogpggielaa", sum := "d0cb414b93119fad03de8fca4c65e9ba84d3114486d063c8d31dff539228d363", func := "qanat/qanatlaw13.SignalReads", spec := "signalReads", inPlace := ["internal/bytealg.IndexByteString", "internal/bytealg.IndexString"], named := ["internal/bytealg.MaxLen"], apart := false }
def SignalReadsSaid : Prop := signalReadsRow.holds Try.pinned (OpenSpec.ofChange signalReadsSpec)

/-- ITS FALSE NEIGHBOUR: 'it returns false'. Refute it at one input. -/
def signalReadsWrong : ChangeSpec := { name := "signalReads", fn := fun _ => fun
  | [d1, d2] => { results := [.lit (.bool false)], args := [d1, d2] }
  | _ => none }
def SignalReadsWrongFalsely : Prop := signalReadsRow.holds Try.pinned (OpenSpec.ofChange signalReadsWrong)

/-- 'qanatlaw13.SignalTexts': WHATEVER THE INPUT: true; the input reads as it did. -/
def signalTextsSpec : ChangeSpec := { name := "signalTexts", fn := fun _ => fun
  | [d1, d2] => { results := [.lit (.bool true)], args := [d1, d2] }
  | _ => none }
def signalTextsRow : OpenClaim := { program := "ytojjeogpggielaa", sum := "d0cb414b93119fad03de8fca4c65e9ba84d3114486d063c8d31dff539228d363", func := "qanat/qanatlaw13.SignalTexts", spec := "signalTexts", inPlace := ["internal/bytealg.IndexByteString", "internal/bytealg.IndexString"], named := ["internal/bytealg.MaxLen"], apart := false }
def SignalTextsSaid : Prop := signalTextsRow.holds Try.pinned (OpenSpec.ofChange signalTextsSpec)

/-- ITS FALSE NEIGHBOUR: 'it returns false'. Refute it at one input. -/
def signalTextsWrong : ChangeSpec := { name := "signalTexts", fn := fun _ => fun
  | [d1, d2] => { results := [.lit (.bool false)], args := [d1, d2] }
  | _ => none }
def SignalTextsWrongFalsely : Prop := signalTextsRow.holds Try.pinned (OpenSpec.ofChange signalTextsWrong)

/-- 'qanatlaw13.SignalTurned': WHATEVER THE INPUT: true; the input reads as it did. -/
def signalTurnedSpec : ChangeSpec := { name := "signalTurned", fn := fun _ => fun
  | [d1, d2, d3, d4, d5] => { results := [.lit (.bool true)], args := [d1, d2, d3, d4, d5] }
  | _ => none }
def signalTurnedRow : OpenClaim := { program := "ytojjeogpggielaa", sum := "d0cb414b93119fad03de8fca4c65e9ba84d3114486d063c8d31dff539228d363", func := "qanat/qanatlaw13.SignalTurned", spec := "signalTurned", inPlace := ["internal/bytealg.IndexByteString", "internal/bytealg.IndexString"], named := ["internal/bytealg.MaxLen"], apart := false }
def SignalTurnedSaid : Prop := signalTurnedRow.holds Try.pinned (OpenSpec.ofChange signalTurnedSpec)

/-- ITS FALSE NEIGHBOUR: 'it returns false'. Refute it at one input. -/
def signalTurnedWrong : ChangeSpec := { name := "signalTurned", fn := fun _ => fun
  | [d1, d2, d3, d4, d5] => { results := [.lit (.bool false)], args := [d1, d2, d3, d4, d5] }
  | _ => none }
def SignalTurnedWrongFalsely : Prop := signalTurnedRow.holds Try.pinned (OpenSpec.ofChange signalTurnedWrong)

/-- 'qanatlaw07.TxnMays': WHATEVER THE INPUT: true; the input reads as it did. -/
def txnMaysSpec : ChangeSpec := { name := "txnMays", fn := fun _ => fun
  | [d1, d2, d3] => { results := [.lit (.bool true)], args := [d1, d2, d3] }
  | _ => none }
def txnMaysRow : OpenClaim := { program := "ytojjeogpggielaa", sum := "d0cb414b93119fad03de8fca4c65e9ba84d3114486d063c8d31dff539228d363", func := "qanat/qanatlaw07.TxnMays", spec := "txnMays", unfollowed := true, recurses := true, apart := false }
def TxnMaysSaid : Prop := txnMaysRow.holds Try.pinned (OpenSpec.ofChange txnMaysSpec)

/-- ITS FALSE NEIGHBOUR: 'it returns false'. Refute it at one input. -/
def txnMaysWrong : ChangeSpec := { name := "txnMays", fn := fun _ => fun
  | [d1, d2, d3] => { results := [.lit (.bool false)], args := [d1, d2, d3] }
  | _ => none }
def TxnMaysWrongFalsely : Prop := txnMaysRow.holds Try.pinned (OpenSpec.ofChange txnMaysWrong)

/-- 'qanatlaw07.TxnBack': WHATEVER THE INPUT: true; the input reads as it did. -/
def txnBackSpec : ChangeSpec := { name := "txnBack", fn := fun _ => fun
  | [d1, d2] => { results := [.lit (.bool true)], args := [d1, d2] }
  | _ => none }
def txnBackRow : OpenClaim := { program := "ytojjeogpggielaa", sum := "d0cb414b93119fad03de8fca4c65e9ba84d3114486d063c8d31dff539228d363", func := "qanat/qanatlaw07.TxnBack", spec := "txnBack", unfollowed := true, recurses := true, apart := false }
def TxnBackSaid : Prop := txnBackRow.holds Try.pinned (OpenSpec.ofChange txnBackSpec)

/-- ITS FALSE NEIGHBOUR: 'it returns false'. Refute it at one input. -/
def txnBackWrong : ChangeSpec := { name := "txnBack", fn := fun _ => fun
  | [d1, d2] => { results := [.lit (.bool false)], args := [d1, d2] }
  | _ => none }
def TxnBackWrongFalsely : Prop := txnBackRow.holds Try.pinned (OpenSpec.ofChange txnBackWrong)

/-- 'qanatlaw07.TxnReads': WHATEVER THE INPUT: true; the input reads as it did. -/
def txnReadsSpec : ChangeSpec := { name := "txnReads", fn := fun _ => fun
  | [d1, d2] => { results := [.lit (.bool true)], args := [d1, d2] }
  | _ => none }
def txnReadsRow : OpenClaim := { program := "ytojjeogpggielaa", sum := "d0cb414b93119fad03de8fca4c65e9ba84d3114486d063c8d31dff539228d363", func := "qanat/qanatlaw07.TxnReads", spec := "txnReads", unfollowed := true, recurses := true, apart := false }
def TxnReadsSaid : Prop := txnReadsRow.holds Try.pinned (OpenSpec.ofChange txnReadsSpec)

/-- ITS FALSE NEIGHBOUR: 'it returns false'. Refute it at one input. -/
def txnReadsWrong : ChangeSpec := { name := "txnReads", fn := fun _ => fun
  | [d1, d2] => { results := [.lit (.bool false)], args := [d1, d2] }
  | _ => none }
def TxnReadsWrongFalsely : Prop := txnReadsRow.holds Try.pinned (OpenSpec.ofChange txnReadsWrong)

/-- 'qanatlaw07.TxnTurned': WHATEVER THE INPUT: true; the input reads as it did. -/
def txnTurnedSpec : ChangeSpec := { name := "txnTurned", fn := fun _ => fun
  | [d1, d2, d3] => { results := [.lit (.bool true)], args := [d1, d2, d3] }
  | _ => none }
def txnTurnedRow : OpenClaim := { program := "ytojjeogpggielaa", sum := "d0cb414b93119fad03de8fca4c65e9ba84d3114486d063c8d31dff539228d363", func := "qanat/qanatlaw07.TxnTurned", spec := "txnTurned", unfollowed := true, recurses := true, apart := false }
def TxnTurnedSaid : Prop := txnTurnedRow.holds Try.pinned (OpenSpec.ofChange txnTurnedSpec)

/-- ITS FALSE NEIGHBOUR: 'it returns false'. Refute it at one input. -/
def txnTurnedWrong : ChangeSpec := { name := "txnTurned", fn := fun _ => fun
  | [d1, d2, d3] => { results := [.lit (.bool false)], args := [d1, d2, d3] }
  | _ => none }
def TxnTurnedWrongFalsely : Prop := txnTurnedRow.holds Try.pinned (OpenSpec.ofChange txnTurnedWrong)

/-- 'qanatlaw07.TxnLimits': WHATEVER THE INPUT: true; the input reads as it did. -/
def txnLimitsSpec : ChangeSpec := { name := "txnLimits", fn := fun _ => fun
  | [d1, d2, d3] => { results := [.lit (.bool true)], args := [d1, d2, d3] }
  | _ => none }
def txnLimitsRow : OpenClaim := { program := "ytojjeogpggielaa", sum := "d0cb414b93119fad03de8fca4c65e9ba84d3114486d063c8d31dff539228d363", func := "qanat/qanatlaw07.TxnLimits", spec := "txnLimits", unfollowed := true, recurses := true, apart := false }
def TxnLimitsSaid : Prop := txnLimitsRow.holds Try.pinned (OpenSpec.ofChange txnLimitsSpec)

/-- ITS FALSE NEIGHBOUR: 'it returns false'. Refute it at one input. -/
def txnLimitsWrong : ChangeSpec := { name := "txnLimits", fn := fun _ => fun
  | [d1, d2, d3] => { results := [.lit (.bool false)], args := [d1, d2, d3] }
  | _ => none }
def TxnLimitsWrongFalsely : Prop := txnLimitsRow.holds Try.pinned (OpenSpec.ofChange txnLimitsWrong)

/- THE SECOND FORM. 'bulk': how many values and letters a reading holds, each counted each time it is reached (what is shared counts as often as it is met; a slice's spare places count too). A statement '..UptoSaid' is the law's where the arguments, and the package variables that the reading takes, are together of bulk at most 1048576: NARROWER than '..Said'. Prove '..Said' where nothing that the law and all that it calls make is longer than what came in: it says more and counts as full. Else prove '..UptoSaid'. A law counts once. -/
mutual
def uptoBulk {H : Type} : DataW H → Nat
  | .lit (.string bytes) => bytes.length + 1
  | .lit _ => 1
  | .nil => 1
  | .ptr d => uptoBulk d + 1
  | .slice elems spare => uptoBulkAll elems + uptoBulkAll spare + 1
  | .agg parts => uptoBulkAll parts + 1
  | .iface _ d => uptoBulk d + 1
  | .map entries => uptoBulkEntries entries + 1
  | .held _ => 1
def uptoBulkAll {H : Type} : List (DataW H) → Nat
  | [] => 0
  | d :: r => uptoBulk d + uptoBulkAll r
def uptoBulkEntries {H : Type} : List (Lit × DataW H) → Nat
  | [] => 0
  | x :: r => uptoBulkEntry x + uptoBulkEntries r
def uptoBulkEntry {H : Type} : Lit × DataW H → Nat
  | (.string bytes, d) => bytes.length + uptoBulk d + 1
  | (_, d) => uptoBulk d + 1
 end
def uptoSmall : (H : Type) → List (DataW H) → Bool := fun _ ds => decide (uptoBulkAll ds ≤ 1048576)
def OpenSpec.upto (s : _root_.Go.ChangeSpec) : _root_.Go.OpenSpec := { _root_.Go.OpenSpec.ofChange s with cond := some uptoSmall }

/-- 'qanatlaw26.WindowTruth', WHERE WHAT IT READS IS OF BULK AT MOST 1048576: true; the input reads as it did. -/
def windowTruthUptoRow : OpenClaim := { program := "ytojjeogpggielaa", sum := "d0cb414b93119fad03de8fca4c65e9ba84d3114486d063c8d31dff539228d363", func := "qanat/qanatlaw26.WindowTruth", spec := "windowTruth", unfollowed := true, recurses := true, apart := false, narrowed := true }
def WindowTruthUptoSaid : Prop := windowTruthUptoRow.holds Try.pinned (OpenSpec.upto windowTruthSpec)

/-- 'qanatlaw26.WindowNews', WHERE WHAT IT READS IS OF BULK AT MOST 1048576: true; the input reads as it did. -/
def windowNewsUptoRow : OpenClaim := { program := "ytojjeogpggielaa", sum := "d0cb414b93119fad03de8fca4c65e9ba84d3114486d063c8d31dff539228d363", func := "qanat/qanatlaw26.WindowNews", spec := "windowNews", unfollowed := true, recurses := true, apart := false, narrowed := true }
def WindowNewsUptoSaid : Prop := windowNewsUptoRow.holds Try.pinned (OpenSpec.upto windowNewsSpec)

/-- 'qanatlaw26.WindowRound', WHERE WHAT IT READS IS OF BULK AT MOST 1048576: true; the input reads as it did. -/
def windowRoundUptoRow : OpenClaim := { program := "ytojjeogpggielaa", sum := "d0cb414b93119fad03de8fca4c65e9ba84d3114486d063c8d31dff539228d363", func := "qanat/qanatlaw26.WindowRound", spec := "windowRound", unfollowed := true, recurses := true, apart := false, narrowed := true }
def WindowRoundUptoSaid : Prop := windowRoundUptoRow.holds Try.pinned (OpenSpec.upto windowRoundSpec)

/-- 'qanatlaw26.WindowPlays', WHERE WHAT IT READS IS OF BULK AT MOST 1048576: true; the input reads as it did. -/
def windowPlaysUptoRow : OpenClaim := { program := "ytojjeogpggielaa", sum := "d0cb414b93119fad03de8fca4c65e9ba84d3114486d063c8d31dff539228d363", func := "qanat/qanatlaw26.WindowPlays", spec := "windowPlays", unfollowed := true, recurses := true, apart := false, narrowed := true }
def WindowPlaysUptoSaid : Prop := windowPlaysUptoRow.holds Try.pinned (OpenSpec.upto windowPlaysSpec)

/-- 'qanatlaw13.SignalReads', WHERE WHAT IT READS IS OF BULK AT MOST 1048576: true; the input reads as it did. -/
def signalReadsUptoRow : OpenClaim := { program := "ytojjeogpggielaa", sum := "d0cb414b93119fad03de8fca4c65e9ba84d3114486d063c8d31dff539228d363", func := "qanat/qanatlaw13.SignalReads", spec := "signalReads", inPlace := ["internal/bytealg.IndexByteString", "internal/bytealg.IndexString"], named := ["internal/bytealg.MaxLen"], apart := false, narrowed := true }
def SignalReadsUptoSaid : Prop := signalReadsUptoRow.holds Try.pinned (OpenSpec.upto signalReadsSpec)

/-- 'qanatlaw13.SignalTexts', WHERE WHAT IT READS IS OF BULK AT MOST 1048576: true; the input reads as it did. -/
def signalTextsUptoRow : OpenClaim := { program := "ytojjeogpggielaa", sum := "d0cb414b93119fad03de8fca4c65e9ba84d3114486d063c8d31dff539228d363", func := "qanat/qanatlaw13.SignalTexts", spec := "signalTexts", inPlace := ["internal/bytealg.IndexByteString", "internal/bytealg.IndexString"], named := ["internal/bytealg.MaxLen"], apart := false, narrowed := true }
def SignalTextsUptoSaid : Prop := signalTextsUptoRow.holds Try.pinned (OpenSpec.upto signalTextsSpec)

/-- 'qanatlaw13.SignalTurned', WHERE WHAT IT READS IS OF BULK AT MOST 1048576: true; the input reads as it did. -/
def signalTurnedUptoRow : OpenClaim := { program := "ytojjeogpggielaa", sum := "d0cb414b93119fad03de8fca4c65e9ba84d3114486d063c8d31dff539228d363", func := "qanat/qanatlaw13.SignalTurned", spec := "signalTurned", inPlace := ["internal/bytealg.IndexByteString", "internal/bytealg.IndexString"], named := ["internal/bytealg.MaxLen"], apart := false, narrowed := true }
def SignalTurnedUptoSaid : Prop := signalTurnedUptoRow.holds Try.pinned (OpenSpec.upto signalTurnedSpec)

/-- 'qanatlaw07.TxnMays', WHERE WHAT IT READS IS OF BULK AT MOST 1048576: true; the input reads as it did. -/
def txnMaysUptoRow : OpenClaim := { program := "ytojjeogpggielaa", sum := "d0cb414b93119fad03de8fca4c65e9ba84d3114486d063c8d31dff539228d363", func := "qanat/qanatlaw07.TxnMays", spec := "txnMays", unfollowed := true, recurses := true, apart := false, narrowed := true }
def TxnMaysUptoSaid : Prop := txnMaysUptoRow.holds Try.pinned (OpenSpec.upto txnMaysSpec)

/-- 'qanatlaw07.TxnBack', WHERE WHAT IT READS IS OF BULK AT MOST 1048576: true; the input reads as it did. -/
def txnBackUptoRow : OpenClaim := { program := "ytojjeogpggielaa", sum := "d0cb414b93119fad03de8fca4c65e9ba84d3114486d063c8d31dff539228d363", func := "qanat/qanatlaw07.TxnBack", spec := "txnBack", unfollowed := true, recurses := true, apart := false, narrowed := true }
def TxnBackUptoSaid : Prop := txnBackUptoRow.holds Try.pinned (OpenSpec.upto txnBackSpec)

/-- 'qanatlaw07.TxnReads', WHERE WHAT IT READS IS OF BULK AT MOST 1048576: true; the input reads as it did. -/
def txnReadsUptoRow : OpenClaim := { program := "ytojjeogpggielaa", sum := "d0cb414b93119fad03de8fca4c65e9ba84d3114486d063c8d31dff539228d363", func := "qanat/qanatlaw07.TxnReads", spec := "txnReads", unfollowed := true, recurses := true, apart := false, narrowed := true }
def TxnReadsUptoSaid : Prop := txnReadsUptoRow.holds Try.pinned (OpenSpec.upto txnReadsSpec)

/-- 'qanatlaw07.TxnTurned', WHERE WHAT IT READS IS OF BULK AT MOST 1048576: true; the input reads as it did. -/
def txnTurnedUptoRow : OpenClaim := { program := "ytojjeogpggielaa", sum := "d0cb414b93119fad03de8fca4c65e9ba84d3114486d063c8d31dff539228d363", func := "qanat/qanatlaw07.TxnTurned", spec := "txnTurned", unfollowed := true, recurses := true, apart := false, narrowed := true }
def TxnTurnedUptoSaid : Prop := txnTurnedUptoRow.holds Try.pinned (OpenSpec.upto txnTurnedSpec)

/-- 'qanatlaw07.TxnLimits', WHERE WHAT IT READS IS OF BULK AT MOST 1048576: true; the input reads as it did. -/
def txnLimitsUptoRow : OpenClaim := { program := "ytojjeogpggielaa", sum := "d0cb414b93119fad03de8fca4c65e9ba84d3114486d063c8d31dff539228d363", func := "qanat/qanatlaw07.TxnLimits", spec := "txnLimits", unfollowed := true, recurses := true, apart := false, narrowed := true }
def TxnLimitsUptoSaid : Prop := txnLimitsUptoRow.holds Try.pinned (OpenSpec.upto txnLimitsSpec)

end Rows
end Go.Proofs.Ytojjeogpggielaa
