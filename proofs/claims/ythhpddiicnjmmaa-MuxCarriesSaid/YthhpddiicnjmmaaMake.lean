/- make([]T, n): the new slice as what the call owns. -/
import Derived.Test.YthhpddiicnjmmaaMem
import Derived.Laws.MakeOwn
namespace Go.Proofs.Ythhpddiicnjmmaa
open Go.RowKit

theorem madeCells_list {z : Array Value} {s n : Nat} (hs : z.size = s) (hp : 0 < s) : (madeCells z (n * s)).toList = (List.replicate n z.toList).flatten := by
  have hl : ∀ cs ∈ List.replicate n z.toList, cs.length = s := by intro cs h; rw [List.eq_of_mem_replicate h]; simpa using hs
  have hfl := flatten_len hl
  rw [List.length_replicate] at hfl
  refine List.ext_getElem? fun j => ?_
  by_cases hj : j < n * s
  · have hd : j / s < n := (Nat.div_lt_iff_lt_mul hp).2 hj
    have hm : j % s < s := Nat.mod_lt _ hp
    have hjj : j = j / s * s + j % s := (Nat.div_add_mod' j s).symm
    have h2 := flatten_at hl (k := j / s) (j := j % s) (cs := z.toList) (by simp [hd]) hm
    rw [← hjj] at h2
    rw [h2]
    have hmz : j % s < z.size := by omega
    simp [madeCells, hj, hs]
    rw [Array.getElem?_eq_getElem hmz, getElem!_pos z _ hmz]
  · rw [List.getElem?_eq_none (by simp [madeCells]; omega), List.getElem?_eq_none (by omega)]

theorem Own.made {α : Type} {R : Rep α} (w : World) (z : Value) (a : α) (n : Nat) (e : TypeId) (hz : z.cells.size = R.size) (hr : ∀ (w : World) (S : Nat → Prop), R.rel w S a z.cells.toList) (hn : n ≤ maxLen) :
    Own R (w.alloc (.cells (madeCells z.cells (n * R.size)) e)) w.heap.size (fun _ => False) e (.slice (some ⟨w.heap.size, 0, none⟩) n n) (List.replicate n a) := by
  refine ⟨fun _ h => h.elim, .inr ⟨w.heap.size, n, _, List.replicate n z.cells.toList, by rw [List.length_replicate], Nat.le_refl _, id, heap_alloc_new w _, by rw [List.length_replicate]; exact Nat.le_refl _, hn, size_madeCells _ _, ⟨by simp, fun k b cs hb hc => ?_⟩, ?_⟩⟩
  · obtain rfl : b = a := by rw [List.getElem?_replicate] at hb; split at hb <;> simp_all
    obtain rfl : cs = z.cells.toList := by rw [List.getElem?_replicate] at hc; split at hc <;> simp_all
    exact hr _ _
  · rw [List.length_replicate, ← madeCells_list hz R.pos, List.take_of_length_le (by simp [madeCells])]

theorem run_make_own {P : Program} (t e : TypeId) (i : TypeInfo) (z : Value) (size bytes : Nat) (ht : P.underlying t = some (.slice e)) (hi : P.info? e = some i) (hz : i.zero = some z) (hsize : i.size = size) (hby : i.bytes = bytes)
    (kl kc : IntKind) (n : Nat) (ni : Int) (hni : ni = (n : Int)) (hbytes : bytes * n ≤ 281474976710656) (h63 : n ≤ 9223372036854775807) (w : World) :
    (Instr.makeSlice t (.int kl ni) (.int kc ni)).run P w = .ok (.slice (some ⟨w.heap.size, 0, none⟩) n n) (w.alloc (.cells (madeCells z.cells (n * size)) e)) := by
  subst hni
  have hb' : (i.bytes : Int) * (n : Int) ≤ 281474976710656 := by
    have h : ((i.bytes * n : Nat) : Int) ≤ 281474976710656 := by rw [hby]; omega
    rwa [Int.natCast_mul] at h
  have hr := run_make (P := P) w t e i z ht hi hz kl kc n n (by omega) (Int.le_refl _) hb' (by omega)
  simp only [Int.toNat_natCast, hsize] at hr
  exact hr
end Go.Proofs.Ythhpddiicnjmmaa
