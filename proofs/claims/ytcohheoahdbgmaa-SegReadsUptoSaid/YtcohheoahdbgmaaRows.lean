/-
  No cell of these rows narrows 'for every input' (looked for: loops, veiled, ifaces, maps, wideKeys, modest, calm, conditions, laid).
  DERIVED. THE GIVEN ROWS OF THIS SEAT. 11 by the template 'for every input the law returns true; each argument reads behind the call as it read before'; 0 by the template 'total and deterministic' (their statements: YtcohheoahdbgmaaTotals.lean).
  GIVEN WITH THE SEED: the statements are not yours to turn. If you find one false, say at which input.
  Laid BY PROGRAM, IN A SANDBOX (cutbox-rows.mjs): the forced cells as the released guide's own fill.sh prints them over the translation e24d6e0bc2a3d308… (all of the seat's roots in one cut). By AI agents, Wed Nov 11 2026. No macro, syntax, notation, axiom, sorry.
-/
import Derived.Test.YtcohheoahdbgmaaChecked
import GoSem.Claim
import GoSem.ClaimJoined
import GoSem.ClaimMapViews
import Derived.JoinedTies
import Derived.KernelRfl
namespace Go.Proofs.Ytcohheoahdbgmaa
/- THE CELL 'sum', in the pinned program and in every row, IS THE sha256 OF THE DUMP (.gsa) THAT YtcohheoahdbgmaaProg.lean LOADS. Nothing in Lean hashes anything: it is a label: what it is worth is what the hold of that sum in a sandbox is worth. -/
noncomputable def Try.pinned : Pinned := { name := "ytcohheoahdbgmaa", sum := "e24d6e0bc2a3d30892259726df910346476f69beacee4b59867dbda1c78bba0f", checked := Try.checked }
namespace Rows
def none {H : Type} : Left H := { results := [], args := [] }

/-- 'qanatlaw16.BatchMays': WHATEVER THE INPUT: true; the input reads as it did. -/
def batchMaysSpec : ChangeSpec := { name := "batchMays", fn := fun _ => fun
  | [d1, d2, d3, d4] => { results := [.lit (.bool true)], args := [d1, d2, d3, d4] }
  | _ => none }
def batchMaysRow : OpenClaim := { program := "ytcohheoahdbgmaa", sum := "e24d6e0bc2a3d30892259726df910346476f69beacee4b59867dbda1c78bba0f", func := "qanat/qanatlaw16.BatchMays", spec := "batchMays", apart := false }
def BatchMaysSaid : Prop := batchMaysRow.holds Try.pinned (OpenSpec.ofChange batchMaysSpec)

/-- ITS FALSE NEIGHBOUR: 'it returns false'. Refute it at one input. -/
def batchMaysWrong : ChangeSpec := { name := "batchMays", fn := fun _ => fun
  | [d1, d2, d3, d4] => { results := [.lit (.bool false)], args := [d1, d2, d3, d4] }
  | _ => none }
def BatchMaysWrongFalsely : Prop := batchMaysRow.holds Try.pinned (OpenSpec.ofChange batchMaysWrong)

/-- 'qanatlaw16.BatchBack': WHATEVER THE INPUT: true; the input reads as it did. -/
def batchBackSpec : ChangeSpec := { name := "batchBack", fn := fun _ => fun
  | [d1, d2, d3] => { results := [.lit (.bool true)], args := [d1, d2, d3] }
  | _ => none }
def batchBackRow : OpenClaim := { program := "ytcohheoahdbgmaa", sum := "e24d6e0bc2a3d30892259726df910346476f69beacee4b59867dbda1c78bba0f", func := "qanat/qanatlaw16.BatchBack", spec := "batchBack", unfollowed := true, recurses := true, apart := false }
def BatchBackSaid : Prop := batchBackRow.holds Try.pinned (OpenSpec.ofChange batchBackSpec)

/-- ITS FALSE NEIGHBOUR: 'it returns false'. Refute it at one input. -/
def batchBackWrong : ChangeSpec := { name := "batchBack", fn := fun _ => fun
  | [d1, d2, d3] => { results := [.lit (.bool false)], args := [d1, d2, d3] }
  | _ => none }
def BatchBackWrongFalsely : Prop := batchBackRow.holds Try.pinned (OpenSpec.ofChange batchBackWrong)

/-- 'qanatlaw16.BatchReads': WHATEVER THE INPUT: true; the input reads as it did. -/
def batchReadsSpec : ChangeSpec := { name := "batchReads", fn := fun _ => fun
  | [d1, d2, d3, d4, d5] => { results := [.lit (.bool true)], args := [d1, d2, d3, d4, d5] }
  | _ => none }
def batchReadsRow : OpenClaim := { program := "ytcohheoahdbgmaa", sum := "e24d6e0bc2a3d30892259726df910346476f69beacee4b59867dbda1c78bba0f", func := "qanat/qanatlaw16.BatchReads", spec := "batchReads", unfollowed := true, recurses := true, apart := false }
def BatchReadsSaid : Prop := batchReadsRow.holds Try.pinned (OpenSpec.ofChange batchReadsSpec)

/-- ITS FALSE NEIGHBOUR: 'it returns false'. Refute it at one input. -/
def batchReadsWrong : ChangeSpec := { name := "batchReads", fn := fun _ => fun
  | [d1, d2, d3, d4, d5] => { results := [.lit (.bool false)], args := [d1, d2, d3, d4, d5] }
  | _ => none }
def BatchReadsWrongFalsely : Prop := batchReadsRow.holds Try.pinned (OpenSpec.ofChange batchReadsWrong)

/-- 'qanatlaw16.BatchJoins': WHATEVER THE INPUT: true; the input reads as it did. -/
def batchJoinsSpec : ChangeSpec := { name := "batchJoins", fn := fun _ => fun
  | [d1, d2] => { results := [.lit (.bool true)], args := [d1, d2] }
  | _ => none }
def batchJoinsRow : OpenClaim := { program := "ytcohheoahdbgmaa", sum := "e24d6e0bc2a3d30892259726df910346476f69beacee4b59867dbda1c78bba0f", func := "qanat/qanatlaw16.BatchJoins", spec := "batchJoins", unfollowed := true, recurses := true, apart := false }
def BatchJoinsSaid : Prop := batchJoinsRow.holds Try.pinned (OpenSpec.ofChange batchJoinsSpec)

/-- ITS FALSE NEIGHBOUR: 'it returns false'. Refute it at one input. -/
def batchJoinsWrong : ChangeSpec := { name := "batchJoins", fn := fun _ => fun
  | [d1, d2] => { results := [.lit (.bool false)], args := [d1, d2] }
  | _ => none }
def BatchJoinsWrongFalsely : Prop := batchJoinsRow.holds Try.pinned (OpenSpec.ofChange batchJoinsWrong)

/-- 'qanatlaw16.BatchParts': WHATEVER THE INPUT: true; the input reads as it did. -/
def batchPartsSpec : ChangeSpec := { name := "batchParts", fn := fun _ => fun
  | [d1, d2] => { results := [.lit (.bool true)], args := [d1, d2] }
  | _ => none }
def batchPartsRow : OpenClaim := { program := "ytcohheoahdbgmaa", sum := "e24d6e0bc2a3d30892259726df910346476f69beacee4b59867dbda1c78bba0f", func := "qanat/qanatlaw16.BatchParts", spec := "batchParts", unfollowed := true, recurses := true, apart := false }
def BatchPartsSaid : Prop := batchPartsRow.holds Try.pinned (OpenSpec.ofChange batchPartsSpec)

/-- ITS FALSE NEIGHBOUR: 'it returns false'. Refute it at one input. -/
def batchPartsWrong : ChangeSpec := { name := "batchParts", fn := fun _ => fun
  | [d1, d2] => { results := [.lit (.bool false)], args := [d1, d2] }
  | _ => none }
def BatchPartsWrongFalsely : Prop := batchPartsRow.holds Try.pinned (OpenSpec.ofChange batchPartsWrong)

/-- 'qanatlaw16.BatchFull': WHATEVER THE INPUT: true; the input reads as it did. -/
def batchFullSpec : ChangeSpec := { name := "batchFull", fn := fun _ => fun
  | [d1, d2] => { results := [.lit (.bool true)], args := [d1, d2] }
  | _ => none }
def batchFullRow : OpenClaim := { program := "ytcohheoahdbgmaa", sum := "e24d6e0bc2a3d30892259726df910346476f69beacee4b59867dbda1c78bba0f", func := "qanat/qanatlaw16.BatchFull", spec := "batchFull", apart := false }
def BatchFullSaid : Prop := batchFullRow.holds Try.pinned (OpenSpec.ofChange batchFullSpec)

/-- ITS FALSE NEIGHBOUR: 'it returns false'. Refute it at one input. -/
def batchFullWrong : ChangeSpec := { name := "batchFull", fn := fun _ => fun
  | [d1, d2] => { results := [.lit (.bool false)], args := [d1, d2] }
  | _ => none }
def BatchFullWrongFalsely : Prop := batchFullRow.holds Try.pinned (OpenSpec.ofChange batchFullWrong)

/-- 'qanatlaw05.SegHeads': WHATEVER THE INPUT: true; the input reads as it did. -/
def segHeadsSpec : ChangeSpec := { name := "segHeads", fn := fun _ => fun
  | [d] => { results := [.lit (.bool true)], args := [d] }
  | _ => none }
def segHeadsRow : OpenClaim := { program := "ytcohheoahdbgmaa", sum := "e24d6e0bc2a3d30892259726df910346476f69beacee4b59867dbda1c78bba0f", func := "qanat/qanatlaw05.SegHeads", spec := "segHeads", apart := false }
def SegHeadsSaid : Prop := segHeadsRow.holds Try.pinned (OpenSpec.ofChange segHeadsSpec)

/-- ITS FALSE NEIGHBOUR: 'it returns false'. Refute it at one input. -/
def segHeadsWrong : ChangeSpec := { name := "segHeads", fn := fun _ => fun
  | [d] => { results := [.lit (.bool false)], args := [d] }
  | _ => none }
def SegHeadsWrongFalsely : Prop := segHeadsRow.holds Try.pinned (OpenSpec.ofChange segHeadsWrong)

/-- 'qanatlaw05.SegReads': WHATEVER THE INPUT: true; the input reads as it did. -/
def segReadsSpec : ChangeSpec := { name := "segReads", fn := fun _ => fun
  | [d1, d2] => { results := [.lit (.bool true)], args := [d1, d2] }
  | _ => none }
def segReadsRow : OpenClaim := { program := "ytcohheoahdbgmaa", sum := "e24d6e0bc2a3d30892259726df910346476f69beacee4b59867dbda1c78bba0f", func := "qanat/qanatlaw05.SegReads", spec := "segReads", unfollowed := true, recurses := true, apart := false }
def SegReadsSaid : Prop := segReadsRow.holds Try.pinned (OpenSpec.ofChange segReadsSpec)

/-- ITS FALSE NEIGHBOUR: 'it returns false'. Refute it at one input. -/
def segReadsWrong : ChangeSpec := { name := "segReads", fn := fun _ => fun
  | [d1, d2] => { results := [.lit (.bool false)], args := [d1, d2] }
  | _ => none }
def SegReadsWrongFalsely : Prop := segReadsRow.holds Try.pinned (OpenSpec.ofChange segReadsWrong)

/-- 'qanatlaw05.SegBack': WHATEVER THE INPUT: true; the input reads as it did. -/
def segBackSpec : ChangeSpec := { name := "segBack", fn := fun _ => fun
  | [d1, d2, d3] => { results := [.lit (.bool true)], args := [d1, d2, d3] }
  | _ => none }
def segBackRow : OpenClaim := { program := "ytcohheoahdbgmaa", sum := "e24d6e0bc2a3d30892259726df910346476f69beacee4b59867dbda1c78bba0f", func := "qanat/qanatlaw05.SegBack", spec := "segBack", unfollowed := true, recurses := true, apart := false }
def SegBackSaid : Prop := segBackRow.holds Try.pinned (OpenSpec.ofChange segBackSpec)

/-- ITS FALSE NEIGHBOUR: 'it returns false'. Refute it at one input. -/
def segBackWrong : ChangeSpec := { name := "segBack", fn := fun _ => fun
  | [d1, d2, d3] => { results := [.lit (.bool false)], args := [d1, d2, d3] }
  | _ => none }
def SegBackWrongFalsely : Prop := segBackRow.holds Try.pinned (OpenSpec.ofChange segBackWrong)

/-- 'qanatlaw05.SegTurned': WHATEVER THE INPUT: true; the input reads as it did. -/
def segTurnedSpec : ChangeSpec := { name := "segTurned", fn := fun _ => fun
  | [d1, d2, d3, d4] => { results := [.lit (.bool true)], args := [d1, d2, d3, d4] }
  | _ => none }
def segTurnedRow : OpenClaim := { program := "ytcohheoahdbgmaa", sum := "e24d6e0bc2a3d30892259726df910346476f69beacee4b59867dbda1c78bba0f", func := "qanat/qanatlaw05.SegTurned", spec := "segTurned", unfollowed := true, recurses := true, apart := false }
def SegTurnedSaid : Prop := segTurnedRow.holds Try.pinned (OpenSpec.ofChange segTurnedSpec)

/-- ITS FALSE NEIGHBOUR: 'it returns false'. Refute it at one input. -/
def segTurnedWrong : ChangeSpec := { name := "segTurned", fn := fun _ => fun
  | [d1, d2, d3, d4] => { results := [.lit (.bool false)], args := [d1, d2, d3, d4] }
  | _ => none }
def SegTurnedWrongFalsely : Prop := segTurnedRow.holds Try.pinned (OpenSpec.ofChange segTurnedWrong)

/-- 'qanatlaw05.SegHeadless': WHATEVER THE INPUT: true; the input reads as it did. -/
def segHeadlessSpec : ChangeSpec := { name := "segHeadless", fn := fun _ => fun
  | [d1, d2] => { results := [.lit (.bool true)], args := [d1, d2] }
  | _ => none }
def segHeadlessRow : OpenClaim := { program := "ytcohheoahdbgmaa", sum := "e24d6e0bc2a3d30892259726df910346476f69beacee4b59867dbda1c78bba0f", func := "qanat/qanatlaw05.SegHeadless", spec := "segHeadless", unfollowed := true, recurses := true, apart := false }
def SegHeadlessSaid : Prop := segHeadlessRow.holds Try.pinned (OpenSpec.ofChange segHeadlessSpec)

/-- ITS FALSE NEIGHBOUR: 'it returns false'. Refute it at one input. -/
def segHeadlessWrong : ChangeSpec := { name := "segHeadless", fn := fun _ => fun
  | [d1, d2] => { results := [.lit (.bool false)], args := [d1, d2] }
  | _ => none }
def SegHeadlessWrongFalsely : Prop := segHeadlessRow.holds Try.pinned (OpenSpec.ofChange segHeadlessWrong)

/- THE SECOND FORM. 'bulk': how many values and letters a reading holds, each counted each time it is reached (what is shared counts as often as it is met; a slice's spare places count too). A statement '..UptoSaid' is the law's where the arguments, and the package variables that the reading takes, are together of bulk at most 1048576: NARROWER than '..Said'. Prove '..Said' where nothing that the law and all that it calls make is longer than what came in: it says more and counts as full. Else prove '..UptoSaid'. A law counts once. -/
mutual
def uptoBulk {H : Type} : DataW H → Nat
  | .lit (.string bytes) => bytes.length + 1
  | .lit _ => 1
  | .nil => 1
  | .ptr d => uptoBulk d + 1
  | .slice elems spare => uptoBulkAll elems + uptoBulkAll spare + 1
  | .agg parts => uptoBulkAll parts + 1
  | .iface _ d => uptoBulk d + 1
  | .map entries => uptoBulkEntries entries + 1
  | .held _ => 1
def uptoBulkAll {H : Type} : List (DataW H) → Nat
  | [] => 0
  | d :: r => uptoBulk d + uptoBulkAll r
def uptoBulkEntries {H : Type} : List (Lit × DataW H) → Nat
  | [] => 0
  | x :: r => uptoBulkEntry x + uptoBulkEntries r
def uptoBulkEntry {H : Type} : Lit × DataW H → Nat
  | (.string bytes, d) => bytes.length + uptoBulk d + 1
  | (_, d) => uptoBulk d + 1
 end
def uptoSmall : (H : Type) → List (DataW H) → Bool := fun _ ds => decide (uptoBulkAll ds ≤ 1048576)
def OpenSpec.upto (s : _root_.Go.ChangeSpec) : _root_.Go.OpenSpec := { _root_.Go.OpenSpec.ofChange s with cond := some uptoSmall }

/-- 'qanatlaw16.BatchMays', WHERE WHAT IT READS IS OF BULK AT MOST 1048576: true; the input reads as it did. -/
def batchMaysUptoRow : OpenClaim := { program := "ytcohheoahdbgmaa", sum := "e24d6e0bc2a3d30892259726df910346476f69beacee4b59867dbda1c78bba0f", func := "qanat/qanatlaw16.BatchMays", spec := "batchMays", apart := false, narrowed := true }
def BatchMaysUptoSaid : Prop := batchMaysUptoRow.holds Try.pinned (OpenSpec.upto batchMaysSpec)

/-- 'qanatlaw16.BatchBack', WHERE WHAT IT READS IS OF BULK AT MOST 1048576: true; the input reads as it did. -/
def batchBackUptoRow : OpenClaim := { program := "ytcohheoahdbgmaa", sum := "e24d6e0bc2a3d30892259726df910346476f69beacee4b59867dbda1c78bba0f", func := "qanat/qanatlaw16.BatchBack", spec := "batchBack", unfollowed := true, recurses := true, apart := false, narrowed := true }
def BatchBackUptoSaid : Prop := batchBackUptoRow.holds Try.pinned (OpenSpec.upto batchBackSpec)

/-- 'qanatlaw16.BatchReads', WHERE WHAT IT READS IS OF BULK AT MOST 1048576: true; the input reads as it did. -/
def batchReadsUptoRow : OpenClaim := { program := "ytcohheoahdbgmaa", sum := "e24d6e0bc2a3d30892259726df910346476f69beacee4b59867dbda1c78bba0f", func := "qanat/qanatlaw16.BatchReads", spec := "batchReads", unfollowed := true, recurses := true, apart := false, narrowed := true }
def BatchReadsUptoSaid : Prop := batchReadsUptoRow.holds Try.pinned (OpenSpec.upto batchReadsSpec)

/-- 'qanatlaw16.BatchJoins', WHERE WHAT IT READS IS OF BULK AT MOST 1048576: true; the input reads as it did. -/
def batchJoinsUptoRow : OpenClaim := { program := "ytcohheoahdbgmaa", sum := "e24d6e0bc2a3d30892259726df910346476f69beacee4b59867dbda1c78bba0f", func := "qanat/qanatlaw16.BatchJoins", spec := "batchJoins", unfollowed := true, recurses := true, apart := false, narrowed := true }
def BatchJoinsUptoSaid : Prop := batchJoinsUptoRow.holds Try.pinned (OpenSpec.upto batchJoinsSpec)

/-- 'qanatlaw16.BatchParts', WHERE WHAT IT READS IS OF BULK AT MOST 1048576: true; the input reads as it did. -/
def batchPartsUptoRow : OpenClaim := { program := "ytcohheoahdbgmaa", sum := "e24d6e0bc2a3d30892259726df910346476f69beacee4b59867dbda1c78bba0f", func := "qanat/qanatlaw16.BatchParts", spec := "batchParts", unfollowed := true, recurses := true, apart := false, narrowed := true }
def BatchPartsUptoSaid : Prop := batchPartsUptoRow.holds Try.pinned (OpenSpec.upto batchPartsSpec)

/-- 'qanatlaw16.BatchFull', WHERE WHAT IT READS IS OF BULK AT MOST 1048576: true; the input reads as it did. -/
def batchFullUptoRow : OpenClaim := { program := "ytcohheoahdbgmaa", sum := "e24d6e0bc2a3d30892259726df910346476f69beacee4b59867dbda1c78bba0f", func := "qanat/qanatlaw16.BatchFull", spec := "batchFull", apart := false, narrowed := true }
def BatchFullUptoSaid : Prop := batchFullUptoRow.holds Try.pinned (OpenSpec.upto batchFullSpec)

/-- 'qanatlaw05.SegHeads', WHERE WHAT IT READS IS OF BULK AT MOST 1048576: true; the input reads as it did. -/
def segHeadsUptoRow : OpenClaim := { program := "ytcohheoahdbgmaa", sum := "e24d6e0bc2a3d30892259726df910346476f69beacee4b59867dbda1c78bba0f", func := "qanat/qanatlaw05.SegHeads", spec := "segHeads", apart := false, narrowed := true }
def SegHeadsUptoSaid : Prop := segHeadsUptoRow.holds Try.pinned (OpenSpec.upto segHeadsSpec)

/-- 'qanatlaw05.SegReads', WHERE WHAT IT READS IS OF BULK AT MOST 1048576: true; the input reads as it did. -/
def segReadsUptoRow : OpenClaim := { program := "ytcohheoahdbgmaa", sum := "e24d6e0bc2a3d30892259726df910346476f69beacee4b59867dbda1c78bba0f", func := "qanat/qanatlaw05.SegReads", spec := "segReads", unfollowed := true, recurses := true, apart := false, narrowed := true }
def SegReadsUptoSaid : Prop := segReadsUptoRow.holds Try.pinned (OpenSpec.upto segReadsSpec)

/-- 'qanatlaw05.SegBack', WHERE WHAT IT READS IS OF BULK AT MOST 1048576: true; the input reads as it did. -/
def segBackUptoRow : OpenClaim := { program := "ytcohheoahdbgmaa", sum := "e24d6e0bc2a3d30892259726df910346476f69beacee4b59867dbda1c78bba0f", func := "qanat/qanatlaw05.SegBack", spec := "segBack", unfollowed := true, recurses := true, apart := false, narrowed := true }
def SegBackUptoSaid : Prop := segBackUptoRow.holds Try.pinned (OpenSpec.upto segBackSpec)

/-- 'qanatlaw05.SegTurned', WHERE WHAT IT READS IS OF BULK AT MOST 1048576: true; the input reads as it did. -/
def segTurnedUptoRow : OpenClaim := { program := "ytcohheoahdbgmaa", sum := "e24d6e0bc2a3d30892259726df910346476f69beacee4b59867dbda1c78bba0f", func := "qanat/qanatlaw05.SegTurned", spec := "segTurned", unfollowed := true, recurses := true, apart := false, narrowed := true }
def SegTurnedUptoSaid : Prop := segTurnedUptoRow.holds Try.pinned (OpenSpec.upto segTurnedSpec)

/-- 'qanatlaw05.SegHeadless', WHERE WHAT IT READS IS OF BULK AT MOST 1048576: true; the input reads as it did. -/
def segHeadlessUptoRow : OpenClaim := { program := "ytcohheoahdbgmaa", sum := "e24d6e0bc2a3d30892259726df910346476f69beacee4b59867dbda1c78bba0f", func := "qanat/qanatlaw05.SegHeadless", spec := "segHeadless", unfollowed := true, recurses := true, apart := false, narrowed := true }
def SegHeadlessUptoSaid : Prop := segHeadlessUptoRow.holds Try.pinned (OpenSpec.upto segHeadlessSpec)

end Rows
end Go.Proofs.Ytcohheoahdbgmaa
