/-
  No cell of these rows narrows 'for every input' (looked for: loops, veiled, ifaces, maps, wideKeys, modest, calm, conditions, laid).
  DERIVED. THE GIVEN ROWS OF THIS SEAT. 11 by the template 'for every input the law returns true; each argument reads behind the call as it read before'; 0 by the template 'total and deterministic' (their statements: YtmnjjmgdeiejkaaTotals.lean).
  GIVEN WITH THE SEED: the statements are not yours to turn. If you find one false, say at which input.
  Laid BY PROGRAM, IN A SANDBOX (cutbox-rows.mjs): the forced cells as the released guide's own fill.sh prints them over the translation 6b1bce46cc798dd9… (all of the seat's roots in one cut). By AI agents, Wed Nov 11 2026. No macro, syntax, notation, axiom, sorry.
-/
import Derived.Test.YtmnjjmgdeiejkaaChecked
import GoSem.Claim
import GoSem.ClaimJoined
import GoSem.ClaimMapViews
import Derived.JoinedTies
import Derived.KernelRfl
namespace Go.Proofs.Ytmnjjmgdeiejkaa
/- THE CELL 'sum', in the pinned program and in every row, IS THE sha256 OF THE DUMP (.gsa) THAT YtmnjjmgdeiejkaaProg.lean LOADS. Nothing in Lean hashes anything: it is a label: what it is worth is what the hold of that sum in a sandbox is worth. -/
noncomputable def Try.pinned : Pinned := { name := "ytmnjjmgdeiejkaa", sum := "6b1bce46cc798dd954a7072685e64c908690340b125030fdd8f3b33ee1c973c9", checked := Try.checked }
namespace Rows
def none {H : Type} : Left H := { results := [], args := [] }

/-- 'qanatlaw25.CursorPlans': WHATEVER THE INPUT: true; the input reads as it did. -/
def cursorPlansSpec : ChangeSpec := { name := "cursorPlans", fn := fun _ => fun
  | [d1, d2, d3, d4] => { results := [.lit (.bool true)], args := [d1, d2, d3, d4] }
  | _ => none }
def cursorPlansRow : OpenClaim := { program := "ytmnjjmgdeiejkaa", sum := "6b1bce46cc798dd954a7072685e64c908690340b125030fdd8f3b33ee1c973c9", func := "qanat/qanatlaw25.CursorPlans", spec := "cursorPlans", apart := false }
def CursorPlansSaid : Prop := cursorPlansRow.holds Try.pinned (OpenSpec.ofChange cursorPlansSpec)

/-- ITS FALSE NEIGHBOUR: 'it returns false'. Refute it at one input. -/
def cursorPlansWrong : ChangeSpec := { name := "cursorPlans", fn := fun _ => fun
  | [d1, d2, d3, d4] => { results := [.lit (.bool false)], args := [d1, d2, d3, d4] }
  | _ => none }
def CursorPlansWrongFalsely : Prop := cursorPlansRow.holds Try.pinned (OpenSpec.ofChange cursorPlansWrong)

/-- 'qanatlaw25.CursorWalk': WHATEVER THE INPUT: true; the input reads as it did. -/
def cursorWalkSpec : ChangeSpec := { name := "cursorWalk", fn := fun _ => fun
  | [d1, d2] => { results := [.lit (.bool true)], args := [d1, d2] }
  | _ => none }
def cursorWalkRow : OpenClaim := { program := "ytmnjjmgdeiejkaa", sum := "6b1bce46cc798dd954a7072685e64c908690340b125030fdd8f3b33ee1c973c9", func := "qanat/qanatlaw25.CursorWalk", spec := "cursorWalk", apart := false }
def CursorWalkSaid : Prop := cursorWalkRow.holds Try.pinned (OpenSpec.ofChange cursorWalkSpec)

/-- ITS FALSE NEIGHBOUR: 'it returns false'. Refute it at one input. -/
def cursorWalkWrong : ChangeSpec := { name := "cursorWalk", fn := fun _ => fun
  | [d1, d2] => { results := [.lit (.bool false)], args := [d1, d2] }
  | _ => none }
def CursorWalkWrongFalsely : Prop := cursorWalkRow.holds Try.pinned (OpenSpec.ofChange cursorWalkWrong)

/-- 'qanatlaw25.CursorLefts': WHATEVER THE INPUT: true; the input reads as it did. -/
def cursorLeftsSpec : ChangeSpec := { name := "cursorLefts", fn := fun _ => fun
  | [d1, d2] => { results := [.lit (.bool true)], args := [d1, d2] }
  | _ => none }
def cursorLeftsRow : OpenClaim := { program := "ytmnjjmgdeiejkaa", sum := "6b1bce46cc798dd954a7072685e64c908690340b125030fdd8f3b33ee1c973c9", func := "qanat/qanatlaw25.CursorLefts", spec := "cursorLefts", apart := false }
def CursorLeftsSaid : Prop := cursorLeftsRow.holds Try.pinned (OpenSpec.ofChange cursorLeftsSpec)

/-- ITS FALSE NEIGHBOUR: 'it returns false'. Refute it at one input. -/
def cursorLeftsWrong : ChangeSpec := { name := "cursorLefts", fn := fun _ => fun
  | [d1, d2] => { results := [.lit (.bool false)], args := [d1, d2] }
  | _ => none }
def CursorLeftsWrongFalsely : Prop := cursorLeftsRow.holds Try.pinned (OpenSpec.ofChange cursorLeftsWrong)

/-- 'qanatlaw01.CrcSums': WHATEVER THE INPUT: true; the input reads as it did. -/
def crcSumsSpec : ChangeSpec := { name := "crcSums", fn := fun _ => fun
  | [d1, d2] => { results := [.lit (.bool true)], args := [d1, d2] }
  | _ => none }
def crcSumsRow : OpenClaim := { program := "ytmnjjmgdeiejkaa", sum := "6b1bce46cc798dd954a7072685e64c908690340b125030fdd8f3b33ee1c973c9", func := "qanat/qanatlaw01.CrcSums", spec := "crcSums", apart := false }
def CrcSumsSaid : Prop := crcSumsRow.holds Try.pinned (OpenSpec.ofChange crcSumsSpec)

/-- ITS FALSE NEIGHBOUR: 'it returns false'. Refute it at one input. -/
def crcSumsWrong : ChangeSpec := { name := "crcSums", fn := fun _ => fun
  | [d1, d2] => { results := [.lit (.bool false)], args := [d1, d2] }
  | _ => none }
def CrcSumsWrongFalsely : Prop := crcSumsRow.holds Try.pinned (OpenSpec.ofChange crcSumsWrong)

/-- 'qanatlaw01.CrcMore': WHATEVER THE INPUT: true; the input reads as it did. -/
def crcMoreSpec : ChangeSpec := { name := "crcMore", fn := fun _ => fun
  | [d1, d2] => { results := [.lit (.bool true)], args := [d1, d2] }
  | _ => none }
def crcMoreRow : OpenClaim := { program := "ytmnjjmgdeiejkaa", sum := "6b1bce46cc798dd954a7072685e64c908690340b125030fdd8f3b33ee1c973c9", func := "qanat/qanatlaw01.CrcMore", spec := "crcMore", apart := false }
def CrcMoreSaid : Prop := crcMoreRow.holds Try.pinned (OpenSpec.ofChange crcMoreSpec)

/-- ITS FALSE NEIGHBOUR: 'it returns false'. Refute it at one input. -/
def crcMoreWrong : ChangeSpec := { name := "crcMore", fn := fun _ => fun
  | [d1, d2] => { results := [.lit (.bool false)], args := [d1, d2] }
  | _ => none }
def CrcMoreWrongFalsely : Prop := crcMoreRow.holds Try.pinned (OpenSpec.ofChange crcMoreWrong)

/-- 'qanatlaw01.CrcParts': WHATEVER THE INPUT: true; the input reads as it did. -/
def crcPartsSpec : ChangeSpec := { name := "crcParts", fn := fun _ => fun
  | [d] => { results := [.lit (.bool true)], args := [d] }
  | _ => none }
def crcPartsRow : OpenClaim := { program := "ytmnjjmgdeiejkaa", sum := "6b1bce46cc798dd954a7072685e64c908690340b125030fdd8f3b33ee1c973c9", func := "qanat/qanatlaw01.CrcParts", spec := "crcParts", apart := false }
def CrcPartsSaid : Prop := crcPartsRow.holds Try.pinned (OpenSpec.ofChange crcPartsSpec)

/-- ITS FALSE NEIGHBOUR: 'it returns false'. Refute it at one input. -/
def crcPartsWrong : ChangeSpec := { name := "crcParts", fn := fun _ => fun
  | [d] => { results := [.lit (.bool false)], args := [d] }
  | _ => none }
def CrcPartsWrongFalsely : Prop := crcPartsRow.holds Try.pinned (OpenSpec.ofChange crcPartsWrong)

/-- 'qanatlaw01.CrcBursts': WHATEVER THE INPUT: true; the input reads as it did. -/
def crcBurstsSpec : ChangeSpec := { name := "crcBursts", fn := fun _ => fun
  | [d1, d2, d3] => { results := [.lit (.bool true)], args := [d1, d2, d3] }
  | _ => none }
def crcBurstsRow : OpenClaim := { program := "ytmnjjmgdeiejkaa", sum := "6b1bce46cc798dd954a7072685e64c908690340b125030fdd8f3b33ee1c973c9", func := "qanat/qanatlaw01.CrcBursts", spec := "crcBursts", apart := false }
def CrcBurstsSaid : Prop := crcBurstsRow.holds Try.pinned (OpenSpec.ofChange crcBurstsSpec)

/-- ITS FALSE NEIGHBOUR: 'it returns false'. Refute it at one input. -/
def crcBurstsWrong : ChangeSpec := { name := "crcBursts", fn := fun _ => fun
  | [d1, d2, d3] => { results := [.lit (.bool false)], args := [d1, d2, d3] }
  | _ => none }
def CrcBurstsWrongFalsely : Prop := crcBurstsRow.holds Try.pinned (OpenSpec.ofChange crcBurstsWrong)

/-- 'qanatlaw14.ReqPlays': WHATEVER THE INPUT: true; the input reads as it did. -/
def reqPlaysSpec : ChangeSpec := { name := "reqPlays", fn := fun _ => fun
  | [d] => { results := [.lit (.bool true)], args := [d] }
  | _ => none }
def reqPlaysRow : OpenClaim := { program := "ytmnjjmgdeiejkaa", sum := "6b1bce46cc798dd954a7072685e64c908690340b125030fdd8f3b33ee1c973c9", func := "qanat/qanatlaw14.ReqPlays", spec := "reqPlays", unfollowed := true, recurses := true, apart := false }
def ReqPlaysSaid : Prop := reqPlaysRow.holds Try.pinned (OpenSpec.ofChange reqPlaysSpec)

/-- ITS FALSE NEIGHBOUR: 'it returns false'. Refute it at one input. -/
def reqPlaysWrong : ChangeSpec := { name := "reqPlays", fn := fun _ => fun
  | [d] => { results := [.lit (.bool false)], args := [d] }
  | _ => none }
def ReqPlaysWrongFalsely : Prop := reqPlaysRow.holds Try.pinned (OpenSpec.ofChange reqPlaysWrong)

/-- 'qanatlaw14.ReqRaw': WHATEVER THE INPUT: true; the input reads as it did. -/
def reqRawSpec : ChangeSpec := { name := "reqRaw", fn := fun _ => fun
  | [d1, d2, d3] => { results := [.lit (.bool true)], args := [d1, d2, d3] }
  | _ => none }
def reqRawRow : OpenClaim := { program := "ytmnjjmgdeiejkaa", sum := "6b1bce46cc798dd954a7072685e64c908690340b125030fdd8f3b33ee1c973c9", func := "qanat/qanatlaw14.ReqRaw", spec := "reqRaw", unfollowed := true, recurses := true, apart := false }
def ReqRawSaid : Prop := reqRawRow.holds Try.pinned (OpenSpec.ofChange reqRawSpec)

/-- ITS FALSE NEIGHBOUR: 'it returns false'. Refute it at one input. -/
def reqRawWrong : ChangeSpec := { name := "reqRaw", fn := fun _ => fun
  | [d1, d2, d3] => { results := [.lit (.bool false)], args := [d1, d2, d3] }
  | _ => none }
def ReqRawWrongFalsely : Prop := reqRawRow.holds Try.pinned (OpenSpec.ofChange reqRawWrong)

/-- 'qanatlaw14.ReqOnce': WHATEVER THE INPUT: true; the input reads as it did. -/
def reqOnceSpec : ChangeSpec := { name := "reqOnce", fn := fun _ => fun
  | [d] => { results := [.lit (.bool true)], args := [d] }
  | _ => none }
def reqOnceRow : OpenClaim := { program := "ytmnjjmgdeiejkaa", sum := "6b1bce46cc798dd954a7072685e64c908690340b125030fdd8f3b33ee1c973c9", func := "qanat/qanatlaw14.ReqOnce", spec := "reqOnce", apart := false }
def ReqOnceSaid : Prop := reqOnceRow.holds Try.pinned (OpenSpec.ofChange reqOnceSpec)

/-- ITS FALSE NEIGHBOUR: 'it returns false'. Refute it at one input. -/
def reqOnceWrong : ChangeSpec := { name := "reqOnce", fn := fun _ => fun
  | [d] => { results := [.lit (.bool false)], args := [d] }
  | _ => none }
def ReqOnceWrongFalsely : Prop := reqOnceRow.holds Try.pinned (OpenSpec.ofChange reqOnceWrong)

/-- 'qanatlaw14.ReqFull': WHATEVER THE INPUT: true; the input reads as it did. -/
def reqFullSpec : ChangeSpec := { name := "reqFull", fn := fun _ => fun
  | [d] => { results := [.lit (.bool true)], args := [d] }
  | _ => none }
def reqFullRow : OpenClaim := { program := "ytmnjjmgdeiejkaa", sum := "6b1bce46cc798dd954a7072685e64c908690340b125030fdd8f3b33ee1c973c9", func := "qanat/qanatlaw14.ReqFull", spec := "reqFull", apart := false }
def ReqFullSaid : Prop := reqFullRow.holds Try.pinned (OpenSpec.ofChange reqFullSpec)

/-- ITS FALSE NEIGHBOUR: 'it returns false'. Refute it at one input. -/
def reqFullWrong : ChangeSpec := { name := "reqFull", fn := fun _ => fun
  | [d] => { results := [.lit (.bool false)], args := [d] }
  | _ => none }
def ReqFullWrongFalsely : Prop := reqFullRow.holds Try.pinned (OpenSpec.ofChange reqFullWrong)

/- THE SECOND FORM. 'bulk': how many values and letters a reading holds, each counted each time it is reached (what is shared counts as often as it is met; a slice's spare places count too). A statement '..UptoSaid' is the law's where the arguments, and the package variables that the reading takes, are together of bulk at most 1048576: NARROWER than '..Said'. Prove '..Said' where nothing that the law and all that it calls make is longer than what came in: it says more and counts as full. Else prove '..UptoSaid'. A law counts once. -/
mutual
def uptoBulk {H : Type} : DataW H → Nat
  | .lit (.string bytes) => bytes.length + 1
  | .lit _ => 1
  | .nil => 1
  | .ptr d => uptoBulk d + 1
  | .slice elems spare => uptoBulkAll elems + uptoBulkAll spare + 1
  | .agg parts => uptoBulkAll parts + 1
  | .iface _ d => uptoBulk d + 1
  | .map entries => uptoBulkEntries entries + 1
  | .held _ => 1
def uptoBulkAll {H : Type} : List (DataW H) → Nat
  | [] => 0
  | d :: r => uptoBulk d + uptoBulkAll r
def uptoBulkEntries {H : Type} : List (Lit × DataW H) → Nat
  | [] => 0
  | x :: r => uptoBulkEntry x + uptoBulkEntries r
def uptoBulkEntry {H : Type} : Lit × DataW H → Nat
  | (.string bytes, d) => bytes.length + uptoBulk d + 1
  | (_, d) => uptoBulk d + 1
 end
def uptoSmall : (H : Type) → List (DataW H) → Bool := fun _ ds => decide (uptoBulkAll ds ≤ 1048576)
def OpenSpec.upto (s : _root_.Go.ChangeSpec) : _root_.Go.OpenSpec := { _root_.Go.OpenSpec.ofChange s with cond := some uptoSmall }

/-- 'qanatlaw25.CursorPlans', WHERE WHAT IT READS IS OF BULK AT MOST 1048576: true; the input reads as it did. -/
def cursorPlansUptoRow : OpenClaim := { program := "ytmnjjmgdeiejkaa", sum := "6b1bce46cc798dd954a7072685e64c908690340b125030fdd8f3b33ee1c973c9", func := "qanat/qanatlaw25.CursorPlans", spec := "cursorPlans", apart := false, narrowed := true }
def CursorPlansUptoSaid : Prop := cursorPlansUptoRow.holds Try.pinned (OpenSpec.upto cursorPlansSpec)

/-- 'qanatlaw25.CursorWalk', WHERE WHAT IT READS IS OF BULK AT MOST 1048576: true; the input reads as it did. -/
def cursorWalkUptoRow : OpenClaim := { program := "ytmnjjmgdeiejkaa", sum := "6b1bce46cc798dd954a7072685e64c908690340b125030fdd8f3b33ee1c973c9", func := "qanat/qanatlaw25.CursorWalk", spec := "cursorWalk", apart := false, narrowed := true }
def CursorWalkUptoSaid : Prop := cursorWalkUptoRow.holds Try.pinned (OpenSpec.upto cursorWalkSpec)

/-- 'qanatlaw25.CursorLefts', WHERE WHAT IT READS IS OF BULK AT MOST 1048576: true; the input reads as it did. -/
def cursorLeftsUptoRow : OpenClaim := { program := "ytmnjjmgdeiejkaa", sum := "6b1bce46cc798dd954a7072685e64c908690340b125030fdd8f3b33ee1c973c9", func := "qanat/qanatlaw25.CursorLefts", spec := "cursorLefts", apart := false, narrowed := true }
def CursorLeftsUptoSaid : Prop := cursorLeftsUptoRow.holds Try.pinned (OpenSpec.upto cursorLeftsSpec)

/-- 'qanatlaw01.CrcSums', WHERE WHAT IT READS IS OF BULK AT MOST 1048576: true; the input reads as it did. -/
def crcSumsUptoRow : OpenClaim := { program := "ytmnjjmgdeiejkaa", sum := "6b1bce46cc798dd954a7072685e64c908690340b125030fdd8f3b33ee1c973c9", func := "qanat/qanatlaw01.CrcSums", spec := "crcSums", apart := false, narrowed := true }
def CrcSumsUptoSaid : Prop := crcSumsUptoRow.holds Try.pinned (OpenSpec.upto crcSumsSpec)

/-- 'qanatlaw01.CrcMore', WHERE WHAT IT READS IS OF BULK AT MOST 1048576: true; the input reads as it did. -/
def crcMoreUptoRow : OpenClaim := { program := "ytmnjjmgdeiejkaa", sum := "6b1bce46cc798dd954a7072685e64c908690340b125030fdd8f3b33ee1c973c9", func := "qanat/qanatlaw01.CrcMore", spec := "crcMore", apart := false, narrowed := true }
def CrcMoreUptoSaid : Prop := crcMoreUptoRow.holds Try.pinned (OpenSpec.upto crcMoreSpec)

/-- 'qanatlaw01.CrcParts', WHERE WHAT IT READS IS OF BULK AT MOST 1048576: true; the input reads as it did. -/
def crcPartsUptoRow : OpenClaim := { program := "ytmnjjmgdeiejkaa", sum := "6b1bce46cc798dd954a7072685e64c908690340b125030fdd8f3b33ee1c973c9", func := "qanat/qanatlaw01.CrcParts", spec := "crcParts", apart := false, narrowed := true }
def CrcPartsUptoSaid : Prop := crcPartsUptoRow.holds Try.pinned (OpenSpec.upto crcPartsSpec)

/-- 'qanatlaw01.CrcBursts', WHERE WHAT IT READS IS OF BULK AT MOST 1048576: true; the input reads as it did. -/
def crcBurstsUptoRow : OpenClaim := { program := "ytmnjjmgdeiejkaa", sum := "6b1bce46cc798dd954a7072685e64c908690340b125030fdd8f3b33ee1c973c9", func := "qanat/qanatlaw01.CrcBursts", spec := "crcBursts", apart := false, narrowed := true }
def CrcBurstsUptoSaid : Prop := crcBurstsUptoRow.holds Try.pinned (OpenSpec.upto crcBurstsSpec)

/-- 'qanatlaw14.ReqPlays', WHERE WHAT IT READS IS OF BULK AT MOST 1048576: true; the input reads as it did. -/
def reqPlaysUptoRow : OpenClaim := { program := "ytmnjjmgdeiejkaa", sum := "6b1bce46cc798dd954a7072685e64c908690340b125030fdd8f3b33ee1c973c9", func := "qanat/qanatlaw14.ReqPlays", spec := "reqPlays", unfollowed := true, recurses := true, apart := false, narrowed := true }
def ReqPlaysUptoSaid : Prop := reqPlaysUptoRow.holds Try.pinned (OpenSpec.upto reqPlaysSpec)

/-- 'qanatlaw14.ReqRaw', WHERE WHAT IT READS IS OF BULK AT MOST 1048576: true; the input reads as it did. -/
def reqRawUptoRow : OpenClaim := { program := "ytmnjjmgdeiejkaa", sum := "6b1bce46cc798dd954a7072685e64c908690340b125030fdd8f3b33ee1c973c9", func := "qanat/qanatlaw14.ReqRaw", spec := "reqRaw", unfollowed := true, recurses := true, apart := false, narrowed := true }
def ReqRawUptoSaid : Prop := reqRawUptoRow.holds Try.pinned (OpenSpec.upto reqRawSpec)

/-- 'qanatlaw14.ReqOnce', WHERE WHAT IT READS IS OF BULK AT MOST 1048576: true; the input reads as it did. -/
def reqOnceUptoRow : OpenClaim := { program := "ytmnjjmgdeiejkaa", sum := "6b1bce46cc798dd954a7072685e64c908690340b125030fdd8f3b33ee1c973c9", func := "qanat/qanatlaw14.ReqOnce", spec := "reqOnce", apart := false, narrowed := true }
def ReqOnceUptoSaid : Prop := reqOnceUptoRow.holds Try.pinned (OpenSpec.upto reqOnceSpec)

/-- 'qanatlaw14.ReqFull', WHERE WHAT IT READS IS OF BULK AT MOST 1048576: true; the input reads as it did. -/
def reqFullUptoRow : OpenClaim := { program := "ytmnjjmgdeiejkaa", sum := "6b1bce46cc798dd954a7072685e64c908690340b125030fdd8f3b33ee1c973c9", func := "qanat/qanatlaw14.ReqFull", spec := "reqFull", apart := false, narrowed := true }
def ReqFullUptoSaid : Prop := reqFullUptoRow.holds Try.pinned (OpenSpec.upto reqFullSpec)

end Rows
end Go.Proofs.Ytmnjjmgdeiejkaa
