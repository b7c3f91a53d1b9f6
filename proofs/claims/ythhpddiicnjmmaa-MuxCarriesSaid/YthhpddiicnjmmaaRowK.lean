/- Rows in memory: an element of a slice of rows, what such a slice gives an append. -/
import Derived.Test.YthhpddiicnjmmaaTypesM
import Derived.Test.YthhpddiicnjmmaaFld1
set_option linter.unusedVariables false
set_option linter.unusedSimpArgs false
namespace Go.Proofs.Ythhpddiicnjmmaa
open Go.RowKit

theorem info_row : (Try.prog.info? 80).map (fun i => (i.zero, i.size, i.bytes)) = some (some (.agg #[.int .i64 0, .string ByteArray.empty]), 2, 24) := by kernel_rfl

theorem IsSl.srcK {α : Type} {R : Rep α} {w w' : World} {S T : Nat → Prop} {A : Option Addr} {n : Nat} {l : List α} (hf : Flat R) (h : IsSl R w T A n l) (hk : ∀ p : Addr, T p.block → w'.cell? p = w.cell? p) : Src R w' S A n l := by
  obtain ⟨h1, xss, h2, h3⟩ := h
  exact ⟨h1, xss, h2.flat hf, (h3.keep hk).weak fun _ _ => trivial⟩

theorem IsSl.row {w w' : World} {T : Nat → Prop} {n k : Nat} {A : Option Addr} {l : List Row} (h : IsSl rowRep w T A n l) (hk : k < n) (hw : ∀ p : Addr, T p.block → w'.cell? p = w.cell? p) :
    ∃ b off x, A = some ⟨b, off, none⟩ ∧ T b ∧ l[k]? = some x ∧ x.wf ∧ w'.cell? ⟨b, off + k * 2, none⟩ = some (.int .i64 x.key) ∧ w'.cell? ⟨b, off + k * 2 + 1, none⟩ = some (.string x.val) := by
  obtain ⟨b, off, x, cs, rfl, hb, hx, ⟨rfl, hw2⟩, hc⟩ := h.at_ hk
  exact ⟨b, off, x, rfl, hb, hx, hw2, (hw _ hb).trans (hc 0 _ rfl), (hw _ hb).trans (hc 1 _ rfl)⟩
end Go.Proofs.Ythhpddiicnjmmaa
