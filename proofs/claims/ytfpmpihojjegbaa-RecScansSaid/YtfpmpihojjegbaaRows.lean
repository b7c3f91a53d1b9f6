/-
  No cell of these rows narrows 'for every input' (looked for: loops, veiled, ifaces, maps, wideKeys, modest, calm, conditions, laid).
  DERIVED. THE GIVEN ROWS OF THIS SEAT. 11 by the template 'for every input the law returns true; each argument reads behind the call as it read before'; 0 by the template 'total and deterministic' (their statements: YtfpmpihojjegbaaTotals.lean).
  GIVEN WITH THE SEED: the statements are not yours to turn. If you find one false, say at which input.
  Laid BY PROGRAM, IN A SANDBOX (cutbox-rows.mjs): the forced cells as the released guide's own fill.sh prints them over the translation 47b07c10be003e57… (all of the seat's roots in one cut). By AI agents, Wed Nov 11 2026. No macro, syntax, notation, axiom, sorry.
-/
import Derived.Test.YtfpmpihojjegbaaChecked
import GoSem.Claim
import GoSem.ClaimJoined
import GoSem.ClaimMapViews
import Derived.JoinedTies
import Derived.KernelRfl
namespace Go.Proofs.Ytfpmpihojjegbaa
/- THE CELL 'sum', in the pinned program and in every row, IS THE sha256 OF THE DUMP (.gsa) THAT YtfpmpihojjegbaaProg.lean LOADS. Nothing in Lean hashes anything: it is a label: what it is worth is what the hold of that sum in a sandbox is worth. -/
noncomputable def Try.pinned : Pinned := { name := "ytfpmpihojjegbaa", sum := "47b07c10be003e57f7f5396f626ec90f3573bf61bb1194def960e56fecdac6ff", checked := Try.checked }
namespace Rows
def none {H : Type} : Left H := { results := [], args := [] }

/-- 'qanatlaw02.FieldBytes': WHATEVER THE INPUT: true; the input reads as it did. -/
def fieldBytesSpec : ChangeSpec := { name := "fieldBytes", fn := fun _ => fun
  | [d] => { results := [.lit (.bool true)], args := [d] }
  | _ => none }
def fieldBytesRow : OpenClaim := { program := "ytfpmpihojjegbaa", sum := "47b07c10be003e57f7f5396f626ec90f3573bf61bb1194def960e56fecdac6ff", func := "qanat/qanatlaw02.FieldBytes", spec := "fieldBytes", unfollowed := true, recurses := true, apart := false }
def FieldBytesSaid : Prop := fieldBytesRow.holds Try.pinned (OpenSpec.ofChange fieldBytesSpec)

/-- ITS FALSE NEIGHBOUR: 'it returns false'. Refute it at one input. -/
def fieldBytesWrong : ChangeSpec := { name := "fieldBytes", fn := fun _ => fun
  | [d] => { results := [.lit (.bool false)], args := [d] }
  | _ => none }
def FieldBytesWrongFalsely : Prop := fieldBytesRow.holds Try.pinned (OpenSpec.ofChange fieldBytesWrong)

/-- 'qanatlaw02.FieldReads': WHATEVER THE INPUT: true; the input reads as it did. -/
def fieldReadsSpec : ChangeSpec := { name := "fieldReads", fn := fun _ => fun
  | [d] => { results := [.lit (.bool true)], args := [d] }
  | _ => none }
def fieldReadsRow : OpenClaim := { program := "ytfpmpihojjegbaa", sum := "47b07c10be003e57f7f5396f626ec90f3573bf61bb1194def960e56fecdac6ff", func := "qanat/qanatlaw02.FieldReads", spec := "fieldReads", unfollowed := true, recurses := true, apart := false }
def FieldReadsSaid : Prop := fieldReadsRow.holds Try.pinned (OpenSpec.ofChange fieldReadsSpec)

/-- ITS FALSE NEIGHBOUR: 'it returns false'. Refute it at one input. -/
def fieldReadsWrong : ChangeSpec := { name := "fieldReads", fn := fun _ => fun
  | [d] => { results := [.lit (.bool false)], args := [d] }
  | _ => none }
def FieldReadsWrongFalsely : Prop := fieldReadsRow.holds Try.pinned (OpenSpec.ofChange fieldReadsWrong)

/-- 'qanatlaw02.FieldBack': WHATEVER THE INPUT: true; the input reads as it did. -/
def fieldBackSpec : ChangeSpec := { name := "fieldBack", fn := fun _ => fun
  | [d1, d2, d3] => { results := [.lit (.bool true)], args := [d1, d2, d3] }
  | _ => none }
def fieldBackRow : OpenClaim := { program := "ytfpmpihojjegbaa", sum := "47b07c10be003e57f7f5396f626ec90f3573bf61bb1194def960e56fecdac6ff", func := "qanat/qanatlaw02.FieldBack", spec := "fieldBack", unfollowed := true, recurses := true, apart := false }
def FieldBackSaid : Prop := fieldBackRow.holds Try.pinned (OpenSpec.ofChange fieldBackSpec)

/-- ITS FALSE NEIGHBOUR: 'it returns false'. Refute it at one input. -/
def fieldBackWrong : ChangeSpec := { name := "fieldBack", fn := fun _ => fun
  | [d1, d2, d3] => { results := [.lit (.bool false)], args := [d1, d2, d3] }
  | _ => none }
def FieldBackWrongFalsely : Prop := fieldBackRow.holds Try.pinned (OpenSpec.ofChange fieldBackWrong)

/-- 'qanatlaw02.FieldTurned': WHATEVER THE INPUT: true; the input reads as it did. -/
def fieldTurnedSpec : ChangeSpec := { name := "fieldTurned", fn := fun _ => fun
  | [d1, d2, d3] => { results := [.lit (.bool true)], args := [d1, d2, d3] }
  | _ => none }
def fieldTurnedRow : OpenClaim := { program := "ytfpmpihojjegbaa", sum := "47b07c10be003e57f7f5396f626ec90f3573bf61bb1194def960e56fecdac6ff", func := "qanat/qanatlaw02.FieldTurned", spec := "fieldTurned", unfollowed := true, recurses := true, apart := false }
def FieldTurnedSaid : Prop := fieldTurnedRow.holds Try.pinned (OpenSpec.ofChange fieldTurnedSpec)

/-- ITS FALSE NEIGHBOUR: 'it returns false'. Refute it at one input. -/
def fieldTurnedWrong : ChangeSpec := { name := "fieldTurned", fn := fun _ => fun
  | [d1, d2, d3] => { results := [.lit (.bool false)], args := [d1, d2, d3] }
  | _ => none }
def FieldTurnedWrongFalsely : Prop := fieldTurnedRow.holds Try.pinned (OpenSpec.ofChange fieldTurnedWrong)

/-- 'qanatlaw02.FieldLimits': WHATEVER THE INPUT: true; the input reads as it did. -/
def fieldLimitsSpec : ChangeSpec := { name := "fieldLimits", fn := fun _ => fun
  | [d1, d2] => { results := [.lit (.bool true)], args := [d1, d2] }
  | _ => none }
def fieldLimitsRow : OpenClaim := { program := "ytfpmpihojjegbaa", sum := "47b07c10be003e57f7f5396f626ec90f3573bf61bb1194def960e56fecdac6ff", func := "qanat/qanatlaw02.FieldLimits", spec := "fieldLimits", apart := false }
def FieldLimitsSaid : Prop := fieldLimitsRow.holds Try.pinned (OpenSpec.ofChange fieldLimitsSpec)

/-- ITS FALSE NEIGHBOUR: 'it returns false'. Refute it at one input. -/
def fieldLimitsWrong : ChangeSpec := { name := "fieldLimits", fn := fun _ => fun
  | [d1, d2] => { results := [.lit (.bool false)], args := [d1, d2] }
  | _ => none }
def FieldLimitsWrongFalsely : Prop := fieldLimitsRow.holds Try.pinned (OpenSpec.ofChange fieldLimitsWrong)

/-- 'qanatlaw03.RecPuts': WHATEVER THE INPUT: true; the input reads as it did. -/
def recPutsSpec : ChangeSpec := { name := "recPuts", fn := fun _ => fun
  | [d] => { results := [.lit (.bool true)], args := [d] }
  | _ => none }
def recPutsRow : OpenClaim := { program := "ytfpmpihojjegbaa", sum := "47b07c10be003e57f7f5396f626ec90f3573bf61bb1194def960e56fecdac6ff", func := "qanat/qanatlaw03.RecPuts", spec := "recPuts", unfollowed := true, recurses := true, apart := false }
def RecPutsSaid : Prop := recPutsRow.holds Try.pinned (OpenSpec.ofChange recPutsSpec)

/-- ITS FALSE NEIGHBOUR: 'it returns false'. Refute it at one input. -/
def recPutsWrong : ChangeSpec := { name := "recPuts", fn := fun _ => fun
  | [d] => { results := [.lit (.bool false)], args := [d] }
  | _ => none }
def RecPutsWrongFalsely : Prop := recPutsRow.holds Try.pinned (OpenSpec.ofChange recPutsWrong)

/-- 'qanatlaw03.RecBack': WHATEVER THE INPUT: true; the input reads as it did. -/
def recBackSpec : ChangeSpec := { name := "recBack", fn := fun _ => fun
  | [d1, d2, d3] => { results := [.lit (.bool true)], args := [d1, d2, d3] }
  | _ => none }
def recBackRow : OpenClaim := { program := "ytfpmpihojjegbaa", sum := "47b07c10be003e57f7f5396f626ec90f3573bf61bb1194def960e56fecdac6ff", func := "qanat/qanatlaw03.RecBack", spec := "recBack", apart := false }
def RecBackSaid : Prop := recBackRow.holds Try.pinned (OpenSpec.ofChange recBackSpec)

/-- ITS FALSE NEIGHBOUR: 'it returns false'. Refute it at one input. -/
def recBackWrong : ChangeSpec := { name := "recBack", fn := fun _ => fun
  | [d1, d2, d3] => { results := [.lit (.bool false)], args := [d1, d2, d3] }
  | _ => none }
def RecBackWrongFalsely : Prop := recBackRow.holds Try.pinned (OpenSpec.ofChange recBackWrong)

/-- 'qanatlaw03.RecTurned': WHATEVER THE INPUT: true; the input reads as it did. -/
def recTurnedSpec : ChangeSpec := { name := "recTurned", fn := fun _ => fun
  | [d1, d2, d3] => { results := [.lit (.bool true)], args := [d1, d2, d3] }
  | _ => none }
def recTurnedRow : OpenClaim := { program := "ytfpmpihojjegbaa", sum := "47b07c10be003e57f7f5396f626ec90f3573bf61bb1194def960e56fecdac6ff", func := "qanat/qanatlaw03.RecTurned", spec := "recTurned", apart := false }
def RecTurnedSaid : Prop := recTurnedRow.holds Try.pinned (OpenSpec.ofChange recTurnedSpec)

/-- ITS FALSE NEIGHBOUR: 'it returns false'. Refute it at one input. -/
def recTurnedWrong : ChangeSpec := { name := "recTurned", fn := fun _ => fun
  | [d1, d2, d3] => { results := [.lit (.bool false)], args := [d1, d2, d3] }
  | _ => none }
def RecTurnedWrongFalsely : Prop := recTurnedRow.holds Try.pinned (OpenSpec.ofChange recTurnedWrong)

/-- 'qanatlaw03.RecLong': WHATEVER THE INPUT: true; the input reads as it did. -/
def recLongSpec : ChangeSpec := { name := "recLong", fn := fun _ => fun
  | [d] => { results := [.lit (.bool true)], args := [d] }
  | _ => none }
def recLongRow : OpenClaim := { program := "ytfpmpihojjegbaa", sum := "47b07c10be003e57f7f5396f626ec90f3573bf61bb1194def960e56fecdac6ff", func := "qanat/qanatlaw03.RecLong", spec := "recLong", apart := false }
def RecLongSaid : Prop := recLongRow.holds Try.pinned (OpenSpec.ofChange recLongSpec)

/-- ITS FALSE NEIGHBOUR: 'it returns false'. Refute it at one input. -/
def recLongWrong : ChangeSpec := { name := "recLong", fn := fun _ => fun
  | [d] => { results := [.lit (.bool false)], args := [d] }
  | _ => none }
def RecLongWrongFalsely : Prop := recLongRow.holds Try.pinned (OpenSpec.ofChange recLongWrong)

/-- 'qanatlaw03.RecReads': WHATEVER THE INPUT: true; the input reads as it did. -/
def recReadsSpec : ChangeSpec := { name := "recReads", fn := fun _ => fun
  | [d1, d2] => { results := [.lit (.bool true)], args := [d1, d2] }
  | _ => none }
def recReadsRow : OpenClaim := { program := "ytfpmpihojjegbaa", sum := "47b07c10be003e57f7f5396f626ec90f3573bf61bb1194def960e56fecdac6ff", func := "qanat/qanatlaw03.RecReads", spec := "recReads", unfollowed := true, recurses := true, apart := false }
def RecReadsSaid : Prop := recReadsRow.holds Try.pinned (OpenSpec.ofChange recReadsSpec)

/-- ITS FALSE NEIGHBOUR: 'it returns false'. Refute it at one input. -/
def recReadsWrong : ChangeSpec := { name := "recReads", fn := fun _ => fun
  | [d1, d2] => { results := [.lit (.bool false)], args := [d1, d2] }
  | _ => none }
def RecReadsWrongFalsely : Prop := recReadsRow.holds Try.pinned (OpenSpec.ofChange recReadsWrong)

/-- 'qanatlaw03.RecScans': WHATEVER THE INPUT: true; the input reads as it did. -/
def recScansSpec : ChangeSpec := { name := "recScans", fn := fun _ => fun
  | [d1, d2] => { results := [.lit (.bool true)], args := [d1, d2] }
  | _ => none }
def recScansRow : OpenClaim := { program := "ytfpmpihojjegbaa", sum := "47b07c10be003e57f7f5396f626ec90f3573bf61bb1194def960e56fecdac6ff", func := "qanat/qanatlaw03.RecScans", spec := "recScans", unfollowed := true, recurses := true, apart := false }
def RecScansSaid : Prop := recScansRow.holds Try.pinned (OpenSpec.ofChange recScansSpec)

/-- ITS FALSE NEIGHBOUR: 'it returns false'. Refute it at one input. -/
def recScansWrong : ChangeSpec := { name := "recScans", fn := fun _ => fun
  | [d1, d2] => { results := [.lit (.bool false)], args := [d1, d2] }
  | _ => none }
def RecScansWrongFalsely : Prop := recScansRow.holds Try.pinned (OpenSpec.ofChange recScansWrong)

/- THE SECOND FORM. 'bulk': how many values and letters a reading holds, each counted each time it is reached (what is shared counts as often as it is met; a slice's spare places count too). A statement '..UptoSaid' is the law's where the arguments, and the package variables that the reading takes, are together of bulk at most 1048576: NARROWER than '..Said'. Prove '..Said' where nothing that the law and all that it calls make is longer than what came in: it says more and counts as full. Else prove '..UptoSaid'. A law counts once. -/
mutual
def uptoBulk {H : Type} : DataW H → Nat
  | .lit (.string bytes) => bytes.length + 1
  | .lit _ => 1
  | .nil => 1
  | .ptr d => uptoBulk d + 1
  | .slice elems spare => uptoBulkAll elems + uptoBulkAll spare + 1
  | .agg parts => uptoBulkAll parts + 1
  | .iface _ d => uptoBulk d + 1
  | .map entries => uptoBulkEntries entries + 1
  | .held _ => 1
def uptoBulkAll {H : Type} : List (DataW H) → Nat
  | [] => 0
  | d :: r => uptoBulk d + uptoBulkAll r
def uptoBulkEntries {H : Type} : List (Lit × DataW H) → Nat
  | [] => 0
  | x :: r => uptoBulkEntry x + uptoBulkEntries r
def uptoBulkEntry {H : Type} : Lit × DataW H → Nat
  | (.string bytes, d) => bytes.length + uptoBulk d + 1
  | (_, d) => uptoBulk d + 1
 end
def uptoSmall : (H : Type) → List (DataW H) → Bool := fun _ ds => decide (uptoBulkAll ds ≤ 1048576)
def OpenSpec.upto (s : _root_.Go.ChangeSpec) : _root_.Go.OpenSpec := { _root_.Go.OpenSpec.ofChange s with cond := some uptoSmall }

/-- 'qanatlaw02.FieldBytes', WHERE WHAT IT READS IS OF BULK AT MOST 1048576: true; the input reads as it did. -/
def fieldBytesUptoRow : OpenClaim := { program := "ytfpmpihojjegbaa", sum := "47b07c10be003e57f7f5396f626ec90f3573bf61bb1194def960e56fecdac6ff", func := "qanat/qanatlaw02.FieldBytes", spec := "fieldBytes", unfollowed := true, recurses := true, apart := false, narrowed := true }
def FieldBytesUptoSaid : Prop := fieldBytesUptoRow.holds Try.pinned (OpenSpec.upto fieldBytesSpec)

/-- 'qanatlaw02.FieldReads', WHERE WHAT IT READS IS OF BULK AT MOST 1048576: true; the input reads as it did. -/
def fieldReadsUptoRow : OpenClaim := { program := "ytfpmpihojjegbaa", sum := "47b07c10be003e57f7f5396f626ec90f3573bf61bb1194def960e56fecdac6ff", func := "qanat/qanatlaw02.FieldReads", spec := "fieldReads", unfollowed := true, recurses := true, apart := false, narrowed := true }
def FieldReadsUptoSaid : Prop := fieldReadsUptoRow.holds Try.pinned (OpenSpec.upto fieldReadsSpec)

/-- 'qanatlaw02.FieldBack', WHERE WHAT IT READS IS OF BULK AT MOST 1048576: true; the input reads as it did. -/
def fieldBackUptoRow : OpenClaim := { program := "ytfpmpihojjegbaa", sum := "47b07c10be003e57f7f5396f626ec90f3573bf61bb1194def960e56fecdac6ff", func := "qanat/qanatlaw02.FieldBack", spec := "fieldBack", unfollowed := true, recurses := true, apart := false, narrowed := true }
def FieldBackUptoSaid : Prop := fieldBackUptoRow.holds Try.pinned (OpenSpec.upto fieldBackSpec)

/-- 'qanatlaw02.FieldTurned', WHERE WHAT IT READS IS OF BULK AT MOST 1048576: true; the input reads as it did. -/
def fieldTurnedUptoRow : OpenClaim := { program := "ytfpmpihojjegbaa", sum := "47b07c10be003e57f7f5396f626ec90f3573bf61bb1194def960e56fecdac6ff", func := "qanat/qanatlaw02.FieldTurned", spec := "fieldTurned", unfollowed := true, recurses := true, apart := false, narrowed := true }
def FieldTurnedUptoSaid : Prop := fieldTurnedUptoRow.holds Try.pinned (OpenSpec.upto fieldTurnedSpec)

/-- 'qanatlaw02.FieldLimits', WHERE WHAT IT READS IS OF BULK AT MOST 1048576: true; the input reads as it did. -/
def fieldLimitsUptoRow : OpenClaim := { program := "ytfpmpihojjegbaa", sum := "47b07c10be003e57f7f5396f626ec90f3573bf61bb1194def960e56fecdac6ff", func := "qanat/qanatlaw02.FieldLimits", spec := "fieldLimits", apart := false, narrowed := true }
def FieldLimitsUptoSaid : Prop := fieldLimitsUptoRow.holds Try.pinned (OpenSpec.upto fieldLimitsSpec)

/-- 'qanatlaw03.RecPuts', WHERE WHAT IT READS IS OF BULK AT MOST 1048576: true; the input reads as it did. -/
def recPutsUptoRow : OpenClaim := { program := "ytfpmpihojjegbaa", sum := "47b07c10be003e57f7f5396f626ec90f3573bf61bb1194def960e56fecdac6ff", func := "qanat/qanatlaw03.RecPuts", spec := "recPuts", unfollowed := true, recurses := true, apart := false, narrowed := true }
def RecPutsUptoSaid : Prop := recPutsUptoRow.holds Try.pinned (OpenSpec.upto recPutsSpec)

/-- 'qanatlaw03.RecBack', WHERE WHAT IT READS IS OF BULK AT MOST 1048576: true; the input reads as it did. -/
def recBackUptoRow : OpenClaim := { program := "ytfpmpihojjegbaa", sum := "47b07c10be003e57f7f5396f626ec90f3573bf61bb1194def960e56fecdac6ff", func := "qanat/qanatlaw03.RecBack", spec := "recBack", apart := false, narrowed := true }
def RecBackUptoSaid : Prop := recBackUptoRow.holds Try.pinned (OpenSpec.upto recBackSpec)

/-- 'qanatlaw03.RecTurned', WHERE WHAT IT READS IS OF BULK AT MOST 1048576: true; the input reads as it did. -/
def recTurnedUptoRow : OpenClaim := { program := "ytfpmpihojjegbaa", sum := "47b07c10be003e57f7f5396f626ec90f3573bf61bb1194def960e56fecdac6ff", func := "qanat/qanatlaw03.RecTurned", spec := "recTurned", apart := false, narrowed := true }
def RecTurnedUptoSaid : Prop := recTurnedUptoRow.holds Try.pinned (OpenSpec.upto recTurnedSpec)

/-- 'qanatlaw03.RecLong', WHERE WHAT IT READS IS OF BULK AT MOST 1048576: true; the input reads as it did. -/
def recLongUptoRow : OpenClaim := { program := "ytfpmpihojjegbaa", sum := "47b07c10be003e57f7f5396f626ec90f3573bf61bb1194def960e56fecdac6ff", func := "qanat/qanatlaw03.RecLong", spec := "recLong", apart := false, narrowed := true }
def RecLongUptoSaid : Prop := recLongUptoRow.holds Try.pinned (OpenSpec.upto recLongSpec)

/-- 'qanatlaw03.RecReads', WHERE WHAT IT READS IS OF BULK AT MOST 1048576: true; the input reads as it did. -/
def recReadsUptoRow : OpenClaim := { program := "ytfpmpihojjegbaa", sum := "47b07c10be003e57f7f5396f626ec90f3573bf61bb1194def960e56fecdac6ff", func := "qanat/qanatlaw03.RecReads", spec := "recReads", unfollowed := true, recurses := true, apart := false, narrowed := true }
def RecReadsUptoSaid : Prop := recReadsUptoRow.holds Try.pinned (OpenSpec.upto recReadsSpec)

/-- 'qanatlaw03.RecScans', WHERE WHAT IT READS IS OF BULK AT MOST 1048576: true; the input reads as it did. -/
def recScansUptoRow : OpenClaim := { program := "ytfpmpihojjegbaa", sum := "47b07c10be003e57f7f5396f626ec90f3573bf61bb1194def960e56fecdac6ff", func := "qanat/qanatlaw03.RecScans", spec := "recScans", unfollowed := true, recurses := true, apart := false, narrowed := true }
def RecScansUptoSaid : Prop := recScansUptoRow.holds Try.pinned (OpenSpec.upto recScansSpec)

end Rows
end Go.Proofs.Ytfpmpihojjegbaa
