/-
  No cell of these rows narrows 'for every input' (looked for: loops, veiled, ifaces, maps, wideKeys, modest, calm, conditions, laid).
  DERIVED. THE GIVEN ROWS OF THIS SEAT. 8 by the template 'for every input the law returns true; each argument reads behind the call as it read before'; 0 by the template 'total and deterministic' (their statements: YthhpddiicnjmmaaTotals.lean).
  GIVEN WITH THE SEED: the statements are not yours to turn. If you find one false, say at which input.
  Laid BY PROGRAM, IN A SANDBOX (cutbox-rows.mjs): the forced cells as the released guide's own fill.sh prints them over the translation 74ddae1d13334f96… (all of the seat's roots in one cut). By AI agents, Wed Nov 11 2026. No macro, syntax, notation, axiom, sorry.
-/
import Derived.Test.YthhpddiicnjmmaaChecked
import GoSem.Claim
import GoSem.ClaimJoined
import GoSem.ClaimMapViews
import Derived.JoinedTies
import Derived.KernelRfl
namespace Go.Proofs.Ythhpddiicnjmmaa
/- THE CELL 'sum', in the pinned program and in every row, IS THE sha256 OF THE DUMP (.gsa) THAT YthhpddiicnjmmaaProg.lean LOADS. Nothing in Lean hashes anything: it is a label: what it is worth is what the hold of that sum in a sandbox is worth. -/
noncomputable def Try.pinned : Pinned := { name := "ythhpddiicnjmmaa", sum := "74ddae1d13334f9687c47f30c35ceddfba866dcfda20edb6fd9ad4c8b7be9c98", checked := Try.checked }
namespace Rows
def none {H : Type} : Left H := { results := [], args := [] }

/-- 'qanatlaw10.ImageBytes': WHATEVER THE INPUT: true; the input reads as it did. -/
def imageBytesSpec : ChangeSpec := { name := "imageBytes", fn := fun _ => fun
  | [d1, d2] => { results := [.lit (.bool true)], args := [d1, d2] }
  | _ => none }
def imageBytesRow : OpenClaim := { program := "ythhpddiicnjmmaa", sum := "74ddae1d13334f9687c47f30c35ceddfba866dcfda20edb6fd9ad4c8b7be9c98", func := "qanat/qanatlaw10.ImageBytes", spec := "imageBytes", apart := false }
def ImageBytesSaid : Prop := imageBytesRow.holds Try.pinned (OpenSpec.ofChange imageBytesSpec)

/-- ITS FALSE NEIGHBOUR: 'it returns false'. Refute it at one input. -/
def imageBytesWrong : ChangeSpec := { name := "imageBytes", fn := fun _ => fun
  | [d1, d2] => { results := [.lit (.bool false)], args := [d1, d2] }
  | _ => none }
def ImageBytesWrongFalsely : Prop := imageBytesRow.holds Try.pinned (OpenSpec.ofChange imageBytesWrong)

/-- 'qanatlaw10.ImageBack': WHATEVER THE INPUT: true; the input reads as it did. -/
def imageBackSpec : ChangeSpec := { name := "imageBack", fn := fun _ => fun
  | [d1, d2, d3, d4] => { results := [.lit (.bool true)], args := [d1, d2, d3, d4] }
  | _ => none }
def imageBackRow : OpenClaim := { program := "ythhpddiicnjmmaa", sum := "74ddae1d13334f9687c47f30c35ceddfba866dcfda20edb6fd9ad4c8b7be9c98", func := "qanat/qanatlaw10.ImageBack", spec := "imageBack", unfollowed := true, recurses := true, apart := false }
def ImageBackSaid : Prop := imageBackRow.holds Try.pinned (OpenSpec.ofChange imageBackSpec)

/-- ITS FALSE NEIGHBOUR: 'it returns false'. Refute it at one input. -/
def imageBackWrong : ChangeSpec := { name := "imageBack", fn := fun _ => fun
  | [d1, d2, d3, d4] => { results := [.lit (.bool false)], args := [d1, d2, d3, d4] }
  | _ => none }
def ImageBackWrongFalsely : Prop := imageBackRow.holds Try.pinned (OpenSpec.ofChange imageBackWrong)

/-- 'qanatlaw10.ImageReads': WHATEVER THE INPUT: true; the input reads as it did. -/
def imageReadsSpec : ChangeSpec := { name := "imageReads", fn := fun _ => fun
  | [d1, d2, d3] => { results := [.lit (.bool true)], args := [d1, d2, d3] }
  | _ => none }
def imageReadsRow : OpenClaim := { program := "ythhpddiicnjmmaa", sum := "74ddae1d13334f9687c47f30c35ceddfba866dcfda20edb6fd9ad4c8b7be9c98", func := "qanat/qanatlaw10.ImageReads", spec := "imageReads", unfollowed := true, recurses := true, apart := false }
def ImageReadsSaid : Prop := imageReadsRow.holds Try.pinned (OpenSpec.ofChange imageReadsSpec)

/-- ITS FALSE NEIGHBOUR: 'it returns false'. Refute it at one input. -/
def imageReadsWrong : ChangeSpec := { name := "imageReads", fn := fun _ => fun
  | [d1, d2, d3] => { results := [.lit (.bool false)], args := [d1, d2, d3] }
  | _ => none }
def ImageReadsWrongFalsely : Prop := imageReadsRow.holds Try.pinned (OpenSpec.ofChange imageReadsWrong)

/-- 'qanatlaw10.ImageTurned': WHATEVER THE INPUT: true; the input reads as it did. -/
def imageTurnedSpec : ChangeSpec := { name := "imageTurned", fn := fun _ => fun
  | [d1, d2, d3] => { results := [.lit (.bool true)], args := [d1, d2, d3] }
  | _ => none }
def imageTurnedRow : OpenClaim := { program := "ythhpddiicnjmmaa", sum := "74ddae1d13334f9687c47f30c35ceddfba866dcfda20edb6fd9ad4c8b7be9c98", func := "qanat/qanatlaw10.ImageTurned", spec := "imageTurned", apart := false }
def ImageTurnedSaid : Prop := imageTurnedRow.holds Try.pinned (OpenSpec.ofChange imageTurnedSpec)

/-- ITS FALSE NEIGHBOUR: 'it returns false'. Refute it at one input. -/
def imageTurnedWrong : ChangeSpec := { name := "imageTurned", fn := fun _ => fun
  | [d1, d2, d3] => { results := [.lit (.bool false)], args := [d1, d2, d3] }
  | _ => none }
def ImageTurnedWrongFalsely : Prop := imageTurnedRow.holds Try.pinned (OpenSpec.ofChange imageTurnedWrong)

/-- 'qanatlaw27.MuxCarries': WHATEVER THE INPUT: true; the input reads as it did. -/
def muxCarriesSpec : ChangeSpec := { name := "muxCarries", fn := fun _ => fun
  | [d1, d2] => { results := [.lit (.bool true)], args := [d1, d2] }
  | _ => none }
def muxCarriesRow : OpenClaim := { program := "ythhpddiicnjmmaa", sum := "74ddae1d13334f9687c47f30c35ceddfba866dcfda20edb6fd9ad4c8b7be9c98", func := "qanat/qanatlaw27.MuxCarries", spec := "muxCarries", inPlace := ["internal/bytealg.IndexByteString", "internal/bytealg.IndexString"], unfollowed := true, recurses := true, named := ["internal/bytealg.MaxLen"], apart := false }
def MuxCarriesSaid : Prop := muxCarriesRow.holds Try.pinned (OpenSpec.ofChange muxCarriesSpec)

/-- ITS FALSE NEIGHBOUR: 'it returns false'. Refute it at one input. -/
def muxCarriesWrong : ChangeSpec := { name := "muxCarries", fn := fun _ => fun
  | [d1, d2] => { results := [.lit (.bool false)], args := [d1, d2] }
  | _ => none }
def MuxCarriesWrongFalsely : Prop := muxCarriesRow.holds Try.pinned (OpenSpec.ofChange muxCarriesWrong)

/-- 'qanatlaw27.MuxSignals': WHATEVER THE INPUT: true; the input reads as it did. -/
def muxSignalsSpec : ChangeSpec := { name := "muxSignals", fn := fun _ => fun
  | [d1, d2] => { results := [.lit (.bool true)], args := [d1, d2] }
  | _ => none }
def muxSignalsRow : OpenClaim := { program := "ythhpddiicnjmmaa", sum := "74ddae1d13334f9687c47f30c35ceddfba866dcfda20edb6fd9ad4c8b7be9c98", func := "qanat/qanatlaw27.MuxSignals", spec := "muxSignals", inPlace := ["internal/bytealg.IndexByteString", "internal/bytealg.IndexString"], unfollowed := true, recurses := true, named := ["internal/bytealg.MaxLen"], apart := false }
def MuxSignalsSaid : Prop := muxSignalsRow.holds Try.pinned (OpenSpec.ofChange muxSignalsSpec)

/-- ITS FALSE NEIGHBOUR: 'it returns false'. Refute it at one input. -/
def muxSignalsWrong : ChangeSpec := { name := "muxSignals", fn := fun _ => fun
  | [d1, d2] => { results := [.lit (.bool false)], args := [d1, d2] }
  | _ => none }
def MuxSignalsWrongFalsely : Prop := muxSignalsRow.holds Try.pinned (OpenSpec.ofChange muxSignalsWrong)

/-- 'qanatlaw27.MuxNews': WHATEVER THE INPUT: true; the input reads as it did. -/
def muxNewsSpec : ChangeSpec := { name := "muxNews", fn := fun _ => fun
  | [d1, d2, d3, d4, d5, d6] => { results := [.lit (.bool true)], args := [d1, d2, d3, d4, d5, d6] }
  | _ => none }
def muxNewsRow : OpenClaim := { program := "ythhpddiicnjmmaa", sum := "74ddae1d13334f9687c47f30c35ceddfba866dcfda20edb6fd9ad4c8b7be9c98", func := "qanat/qanatlaw27.MuxNews", spec := "muxNews", inPlace := ["internal/bytealg.IndexByteString", "internal/bytealg.IndexString"], unfollowed := true, recurses := true, named := ["internal/bytealg.MaxLen"], apart := false }
def MuxNewsSaid : Prop := muxNewsRow.holds Try.pinned (OpenSpec.ofChange muxNewsSpec)

/-- ITS FALSE NEIGHBOUR: 'it returns false'. Refute it at one input. -/
def muxNewsWrong : ChangeSpec := { name := "muxNews", fn := fun _ => fun
  | [d1, d2, d3, d4, d5, d6] => { results := [.lit (.bool false)], args := [d1, d2, d3, d4, d5, d6] }
  | _ => none }
def MuxNewsWrongFalsely : Prop := muxNewsRow.holds Try.pinned (OpenSpec.ofChange muxNewsWrong)

/-- 'qanatlaw27.MuxPlays': WHATEVER THE INPUT: true; the input reads as it did. -/
def muxPlaysSpec : ChangeSpec := { name := "muxPlays", fn := fun _ => fun
  | [d1, d2, d3] => { results := [.lit (.bool true)], args := [d1, d2, d3] }
  | _ => none }
def muxPlaysRow : OpenClaim := { program := "ythhpddiicnjmmaa", sum := "74ddae1d13334f9687c47f30c35ceddfba866dcfda20edb6fd9ad4c8b7be9c98", func := "qanat/qanatlaw27.MuxPlays", spec := "muxPlays", inPlace := ["internal/bytealg.IndexByteString", "internal/bytealg.IndexString"], unfollowed := true, recurses := true, named := ["internal/bytealg.MaxLen"], apart := false }
def MuxPlaysSaid : Prop := muxPlaysRow.holds Try.pinned (OpenSpec.ofChange muxPlaysSpec)

/-- ITS FALSE NEIGHBOUR: 'it returns false'. Refute it at one input. -/
def muxPlaysWrong : ChangeSpec := { name := "muxPlays", fn := fun _ => fun
  | [d1, d2, d3] => { results := [.lit (.bool false)], args := [d1, d2, d3] }
  | _ => none }
def MuxPlaysWrongFalsely : Prop := muxPlaysRow.holds Try.pinned (OpenSpec.ofChange muxPlaysWrong)

/- THE SECOND FORM. 'bulk': how many values and letters a reading holds, each counted each time it is reached (what is shared counts as often as it is met; a slice's spare places count too). A statement '..UptoSaid' is the law's where the arguments, and the package variables that the reading takes, are together of bulk at most 1048576: NARROWER than '..Said'. Prove '..Said' where nothing that the law and all that it calls make is longer than what came in: it says more and counts as full. Else prove '..UptoSaid'. A law counts once. -/
mutual
def uptoBulk {H : Type} : DataW H → Nat
  | .lit (.string bytes) => bytes.length + 1
  | .lit _ => 1
  | .nil => 1
  | .ptr d => uptoBulk d + 1
  | .slice elems spare => uptoBulkAll elems + uptoBulkAll spare + 1
  | .agg parts => uptoBulkAll parts + 1
  | .iface _ d => uptoBulk d + 1
  | .map entries => uptoBulkEntries entries + 1
  | .held _ => 1
def uptoBulkAll {H : Type} : List (DataW H) → Nat
  | [] => 0
  | d :: r => uptoBulk d + uptoBulkAll r
def uptoBulkEntries {H : Type} : List (Lit × DataW H) → Nat
  | [] => 0
  | x :: r => uptoBulkEntry x + uptoBulkEntries r
def uptoBulkEntry {H : Type} : Lit × DataW H → Nat
  | (.string bytes, d) => bytes.length + uptoBulk d + 1
  | (_, d) => uptoBulk d + 1
 end
def uptoSmall : (H : Type) → List (DataW H) → Bool := fun _ ds => decide (uptoBulkAll ds ≤ 1048576)
def OpenSpec.upto (s : _root_.Go.ChangeSpec) : _root_.Go.OpenSpec := { _root_.Go.OpenSpec.ofChange s with cond := some uptoSmall }

/-- 'qanatlaw10.ImageBytes', WHERE WHAT IT READS IS OF BULK AT MOST 1048576: true; the input reads as it did. -/
def imageBytesUptoRow : OpenClaim := { program := "ythhpddiicnjmmaa", sum := "74ddae1d13334f9687c47f30c35ceddfba866dcfda20edb6fd9ad4c8b7be9c98", func := "qanat/qanatlaw10.ImageBytes", spec := "imageBytes", apart := false, narrowed := true }
def ImageBytesUptoSaid : Prop := imageBytesUptoRow.holds Try.pinned (OpenSpec.upto imageBytesSpec)

/-- 'qanatlaw10.ImageBack', WHERE WHAT IT READS IS OF BULK AT MOST 1048576: true; the input reads as it did. -/
def imageBackUptoRow : OpenClaim := { program := "ythhpddiicnjmmaa", sum := "74ddae1d13334f9687c47f30c35ceddfba866dcfda20edb6fd9ad4c8b7be9c98", func := "qanat/qanatlaw10.ImageBack", spec := "imageBack", unfollowed := true, recurses := true, apart := false, narrowed := true }
def ImageBackUptoSaid : Prop := imageBackUptoRow.holds Try.pinned (OpenSpec.upto imageBackSpec)

/-- 'qanatlaw10.ImageReads', WHERE WHAT IT READS IS OF BULK AT MOST 1048576: true; the input reads as it did. -/
def imageReadsUptoRow : OpenClaim := { program := "ythhpddiicnjmmaa", sum := "74ddae1d13334f9687c47f30c35ceddfba866dcfda20edb6fd9ad4c8b7be9c98", func := "qanat/qanatlaw10.ImageReads", spec := "imageReads", unfollowed := true, recurses := true, apart := false, narrowed := true }
def ImageReadsUptoSaid : Prop := imageReadsUptoRow.holds Try.pinned (OpenSpec.upto imageReadsSpec)

/-- 'qanatlaw10.ImageTurned', WHERE WHAT IT READS IS OF BULK AT MOST 1048576: true; the input reads as it did. -/
def imageTurnedUptoRow : OpenClaim := { program := "ythhpddiicnjmmaa", sum := "74ddae1d13334f9687c47f30c35ceddfba866dcfda20edb6fd9ad4c8b7be9c98", func := "qanat/qanatlaw10.ImageTurned", spec := "imageTurned", apart := false, narrowed := true }
def ImageTurnedUptoSaid : Prop := imageTurnedUptoRow.holds Try.pinned (OpenSpec.upto imageTurnedSpec)

/-- 'qanatlaw27.MuxCarries', WHERE WHAT IT READS IS OF BULK AT MOST 1048576: true; the input reads as it did. -/
def muxCarriesUptoRow : OpenClaim := { program := "ythhpddiicnjmmaa", sum := "74ddae1d13334f9687c47f30c35ceddfba866dcfda20edb6fd9ad4c8b7be9c98", func := "qanat/qanatlaw27.MuxCarries", spec := "muxCarries", inPlace := ["internal/bytealg.IndexByteString", "internal/bytealg.IndexString"], unfollowed := true, recurses := true, named := ["internal/bytealg.MaxLen"], apart := false, narrowed := true }
def MuxCarriesUptoSaid : Prop := muxCarriesUptoRow.holds Try.pinned (OpenSpec.upto muxCarriesSpec)

/-- 'qanatlaw27.MuxSignals', WHERE WHAT IT READS IS OF BULK AT MOST 1048576: true; the input reads as it did. -/
def muxSignalsUptoRow : OpenClaim := { program := "ythhpddiicnjmmaa", sum := "74ddae1d13334f9687c47f30c35ceddfba866dcfda20edb6fd9ad4c8b7be9c98", func := "qanat/qanatlaw27.MuxSignals", spec := "muxSignals", inPlace := ["internal/bytealg.IndexByteString", "internal/bytealg.IndexString"], unfollowed := true, recurses := true, named := ["internal/bytealg.MaxLen"], apart := false, narrowed := true }
def MuxSignalsUptoSaid : Prop := muxSignalsUptoRow.holds Try.pinned (OpenSpec.upto muxSignalsSpec)

/-- 'qanatlaw27.MuxNews', WHERE WHAT IT READS IS OF BULK AT MOST 1048576: true; the input reads as it did. -/
def muxNewsUptoRow : OpenClaim := { program := "ythhpddiicnjmmaa", sum := "74ddae1d13334f9687c47f30c35ceddfba866dcfda20edb6fd9ad4c8b7be9c98", func := "qanat/qanatlaw27.MuxNews", spec := "muxNews", inPlace := ["internal/bytealg.IndexByteString", "internal/bytealg.IndexString"], unfollowed := true, recurses := true, named := ["internal/bytealg.MaxLen"], apart := false, narrowed := true }
def MuxNewsUptoSaid : Prop := muxNewsUptoRow.holds Try.pinned (OpenSpec.upto muxNewsSpec)

/-- 'qanatlaw27.MuxPlays', WHERE WHAT IT READS IS OF BULK AT MOST 1048576: true; the input reads as it did. -/
def muxPlaysUptoRow : OpenClaim := { program := "ythhpddiicnjmmaa", sum := "74ddae1d13334f9687c47f30c35ceddfba866dcfda20edb6fd9ad4c8b7be9c98", func := "qanat/qanatlaw27.MuxPlays", spec := "muxPlays", inPlace := ["internal/bytealg.IndexByteString", "internal/bytealg.IndexString"], unfollowed := true, recurses := true, named := ["internal/bytealg.MaxLen"], apart := false, narrowed := true }
def MuxPlaysUptoSaid : Prop := muxPlaysUptoRow.holds Try.pinned (OpenSpec.upto muxPlaysSpec)

end Rows
end Go.Proofs.Ythhpddiicnjmmaa
