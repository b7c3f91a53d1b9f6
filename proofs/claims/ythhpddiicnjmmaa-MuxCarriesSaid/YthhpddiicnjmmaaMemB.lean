/- Bytes: a slice of bytes as a string, and a string behind bytes that the call owns. -/
import Derived.Test.YthhpddiicnjmmaaStr
import Derived.Lib.AppendStr
import Derived.Laws.BytesArg
namespace Go.Proofs.Ythhpddiicnjmmaa
open Go.RowKit

/-- Elements just laid into a block of their own. -/
theorem IsSl.new1 {α : Type} {R : Rep α} {w : World} {S : Nat → Prop} {t : TypeId} {a : α} {cs : List Value} (h : R.rel (w.alloc (.cells cs.toArray t)) S a cs) (hS : S w.heap.size) : IsSl R (w.alloc (.cells cs.toArray t)) S (some ⟨w.heap.size, 0, none⟩) 1 [a] :=
  ⟨rfl, [cs], Rows.single h, fun _ => ⟨_, 0, rfl, hS, fun j u hu => by rw [Nat.zero_add, World.cell?_alloc_at _ _ _ _ rfl]; simpa using hu⟩⟩

def byteVals (l : List UInt8) : List Value := l.map fun b => Value.int .u8 (b.toNat : Int)

theorem rows_bytes {w : World} {S : Nat → Prop} (l : List UInt8) : Rows byteRep w S l (l.map fun b => [Value.int .u8 (b.toNat : Int)]) := by
  refine ⟨by simp, fun k a cs ha hc => ?_⟩
  rw [List.getElem?_map, ha] at hc
  exact ⟨(Option.some.inj hc).symm, trivial⟩

theorem flat_bytes (l : List UInt8) : (l.map fun b => [Value.int .u8 (b.toNat : Int)]).flatten = byteVals l := by
  unfold byteVals
  induction l with
  | nil => rfl
  | cons a t ih => simp [ih]

theorem rows_bytes_eq {w : World} {S : Nat → Prop} {l : List UInt8} {xss : List (List Value)} (h : Rows byteRep w S l xss) : xss.flatten = byteVals l := by
  rw [← flat_bytes]
  congr 1
  refine List.ext_getElem? fun k => ?_
  by_cases hk : k < l.length
  · have h2 : k < xss.length := by rw [h.1]; exact hk
    have := h.2 k l[k] xss[k] (List.getElem?_eq_getElem _) (List.getElem?_eq_getElem _)
    rw [List.getElem?_eq_getElem h2, List.getElem?_map, List.getElem?_eq_getElem hk, this.1]
    rfl
  · rw [List.getElem?_eq_none (by rw [h.1]; omega), List.getElem?_eq_none (by simp; omega)]

theorem IsSl.newBytes {w : World} {S : Nat → Prop} {t : TypeId} (l : List UInt8) {cs : Array Value} (hcs : cs = (byteVals l).toArray) {n : Nat} (hn : n = l.length) (hS : S w.heap.size) : IsSl byteRep (w.alloc (.cells cs t)) S (some ⟨w.heap.size, 0, none⟩) n l := by
  subst hcs
  refine ⟨hn, _, rows_bytes l, fun _ => ⟨_, 0, rfl, hS, fun j u hu => ?_⟩⟩
  rw [flat_bytes] at hu
  rw [Nat.zero_add, World.cell?_alloc_at _ _ _ _ rfl]
  simpa using hu

theorem IsSl.byte {w : World} {S : Nat → Prop} {A : Option Addr} {n : Nat} {l : List UInt8} (h : IsSl byteRep w S A n l) (hn : 0 < n) :
    ∃ b off, A = some ⟨b, off, none⟩ ∧ S b ∧ ∀ i, i < n → w.cell? ⟨b, off + i, none⟩ = some (.int .u8 (((l.map fun b => (b.toNat : Int))).getD i 0)) := by
  obtain ⟨b, off, a, cs, rfl, hS, _, _, _⟩ := h.at_ hn
  refine ⟨b, off, rfl, hS, fun i hi => ?_⟩
  obtain ⟨b', off', a, cs, hA, _, ha, ⟨rfl, _⟩, hc⟩ := h.at_ hi
  injection hA with hA
  injection hA with h1 h2 _
  subst h1 h2
  have := hc 0 _ rfl
  rw [show off + i * byteRep.size + 0 = off + i by show off + i * 1 + 0 = off + i; omega] at this
  rw [this]
  congr 2
  simp [List.getD, ha]

theorem own_byte {w : World} {base g n cap k : Nat} {S : Nat → Prop} {e : TypeId} {l : List UInt8} {x : UInt8} (h : Own byteRep w base S e (.slice (some ⟨g, 0, none⟩) n cap) l) (hx : l[k]? = some x) :
    w.cell? ⟨g, k, none⟩ = some (.int .u8 (x.toNat : Int)) ∧ w.frozen? ⟨g, k, none⟩ = false := by
  obtain ⟨cs, u, ⟨rfl, _⟩, hu, hc, hf⟩ := h.cellAt hx (j := 0) (by simp [byteRep, Rep.flat])
  simp at hu
  subst hu
  have e : k * byteRep.size + 0 = k := by show k * 1 + 0 = k; omega
  rw [e] at hc hf
  exact ⟨hc, hf⟩

theorem own_byte_set {w : World} {base g n cap k : Nat} {S : Nat → Prop} {e : TypeId} {l : List UInt8} {x : UInt8} (y : UInt8) (h : Own byteRep w base S e (.slice (some ⟨g, 0, none⟩) n cap) l) (hx : l[k]? = some x) :
    Own byteRep (w.setCell ⟨g, k, none⟩ (.int .u8 (y.toNat : Int))) base S e (.slice (some ⟨g, 0, none⟩) n cap) (l.set k y) := by
  have := Own.store (j := 0) (a' := y) (cs := [.int .u8 (x.toNat : Int)]) (u := .int .u8 (y.toNat : Int)) flat_byte h hx (by rintro cs ⟨rfl, _⟩; rfl) (by simp [byteRep, Rep.flat]) ⟨rfl, trivial⟩
  have e : k * byteRep.size + 0 = k := by show k * 1 + 0 = k; omega
  rw [e] at this
  exact this

theorem run_str_of {P : Program} {w : World} {S : Nat → Prop} {A : Option Addr} {n c : Nat} {l : List UInt8} (src dst e : TypeId) (hs : P.underlying src = some (.slice e)) (he : P.underlying e = some (.int .u8)) (hd : P.underlying dst = some .string) (h : IsSl byteRep w S A n l) :
    (convert src dst (.slice A n c)).run P w = .ok (.string ⟨l.toArray⟩) w := by
  rcases Nat.eq_zero_or_pos n with h0 | h0
  · subst h0
    obtain rfl : l = [] := List.eq_nil_of_length_eq_zero h.len.symm
    cases A with
    | none => exact run_convert_bytes_nil w src e hs he 0 c dst hd
    | some a =>
      rw [run_convert_bytes_string w src dst e _ 0 c hs he hd, run_bytesToString w a 0 c [] (by simp [loadCells, loadCellsFrom])]
      rfl
  · obtain ⟨b, off, rfl, _, hc⟩ := h.byte h0
    rw [run_convert_bytes_arg w src e hs he b off n c (l.map fun b => (b.toNat : Int)) (by simp [h.len]) hc dst hd]
    have : strOfNums (l.map fun b => (b.toNat : Int)) = ⟨l.toArray⟩ := by
      unfold strOfNums
      congr 2
      rw [List.map_map]
      conv => rhs; rw [← List.map_id l]
      refine List.map_congr_left fun b _ => ?_
      simp
    rw [this]

theorem Own.toRow {w : World} {base : Nat} {S : Nat → Prop} {e : TypeId} {v : Value} {l : List UInt8} (h : Own byteRep w base S e v l) (hl : l ≠ []) : w.ownsRow base e 1 v l.length (byteVals l) ∧ v.ownBlock = rowOf v := by
  rcases h.2 with ⟨A, _, rfl⟩ | ⟨g, cap, cur, xss, rfl, hbg, hSg, hh, hle, hm, hsz, hr, htake⟩
  · exact absurd rfl hl
  · refine ⟨⟨by simp [byteVals], .inr ⟨g, cap, cur, rfl, hbg, hh, hle, hm, hsz, ?_⟩⟩, ?_⟩
    · rw [← rows_bytes_eq hr]; exact htake
    · cases cap with
      | zero => exact absurd (List.eq_nil_of_length_eq_zero (by omega)) hl
      | succ c => rfl

theorem Own.ofRow {w : World} {base : Nat} {e : TypeId} {v : Value} {l : List UInt8} (h : w.ownsRow base e 1 v l.length (byteVals l)) : Own byteRep w base (fun _ => False) e v l := by
  refine ⟨fun _ h => h.elim, ?_⟩
  rcases h.2 with ⟨rfl, hx⟩ | ⟨g, cap, cur, rfl, hbg, hh, hle, hm, hsz, htake⟩
  · left
    have hl : l = [] := by simpa [byteVals] using hx
    subst hl
    exact ⟨none, rfl, rfl⟩
  · right
    exact ⟨g, cap, cur, _, rfl, hbg, id, hh, hle, hm, hsz, rows_bytes l, by rw [flat_bytes]; exact htake⟩

/-- append(b, s...): bytes that the call owns, and a string. -/
theorem wp_append_Own_str {P : Program} {w : World} {l : List UInt8} {o : Oper} {a : Act} {K : Act → World → Prop} {Q : Exit → Act → World → Prop} (sl x : Operand) (t u : TypeId)
    (ho : o.op = .call { callee := .builtin .append, args := #[sl, x], argTypes := #[t, u] })
    (base : Nat) (e : TypeId) (i : TypeInfo) (ht : P.underlying t = some (.slice e)) (hu : P.underlying u = some .string) (hi : P.info? e = some i) (hz : i.zero = some (.int .u8 0))
    (hsize : i.size = 1) (hby : i.bytes = 1)
    (v : Value) (hs : a.eval sl = v) (hown : Own byteRep w base (fun _ => False) e v l) (hl : l ≠ []) (s : ByteArray) (hx : a.eval x = .string s)
    (hbytes : l.length + s.size ≤ 140737488355328) (hbase : base ≤ w.heap.size)
    (h : ∀ v' w', Own byteRep w' base (fun _ => False) e v' (l ++ s.data.toList) → w.grownBy w' (rowOf v) → K (a.put o.dst v') w') : o.wp P a w K Q := by
  obtain ⟨h1, h2⟩ := hown.toRow hl
  obtain ⟨v', w', hr, ho', hg, _⟩ := Lib.run_append_own_string (P := P) w base t u o.type e i ht hu hi hz hsize hby v l.length (byteVals l) h1 s (by unfold maxLen; omega) hbytes hbase
  unfold Oper.wp execOp
  simp only [ho, resolve, invoke, builtin, Sem.run_bind, Sem.run_pure, Result.andThen_ok, List.map_toArray, List.map_cons, List.map_nil, hs, hx, hr]
  refine h v' w' ?_ (by rw [← h2]; exact hg)
  refine Own.ofRow ?_
  have hd : s.data.size = s.size := rfl
  simpa [byteVals, Lib.strCells, hd] using ho'

theorem wpList_append_Own_str {P : Program} {w : World} {l : List UInt8} {ops : Array Oper} {rest : List Oper} {o : Oper} {a : Act} {Q : Exit → Act → World → Prop} (hgd : o.guard = none) (sl x : Operand) (t u : TypeId)
    (ho : o.op = .call { callee := .builtin .append, args := #[sl, x], argTypes := #[t, u] })
    (base : Nat) (e : TypeId) (i : TypeInfo) (ht : P.underlying t = some (.slice e)) (hu : P.underlying u = some .string) (hi : P.info? e = some i) (hz : i.zero = some (.int .u8 0))
    (hsize : i.size = 1) (hby : i.bytes = 1)
    (v : Value) (hs : a.eval sl = v) (hown : Own byteRep w base (fun _ => False) e v l) (hl : l ≠ []) (s : ByteArray) (hx : a.eval x = .string s)
    (hbytes : l.length + s.size ≤ 140737488355328) (hbase : base ≤ w.heap.size)
    (h : ∀ v' w', Own byteRep w' base (fun _ => False) e v' (l ++ s.data.toList) → w.grownBy w' (rowOf v) → wpList P ops Q rest (a.put o.dst v') w') : wpList P ops Q (o :: rest) a w :=
  wpList_plain hgd fun _ hK => wp_append_Own_str sl x t u ho base e i ht hu hi hz hsize hby v hs hown hl s hx hbytes hbase fun v' w' h2 h3 => hK _ _ (h v' w' h2 h3)

theorem step_append_Own_str {P : Program} {w : World} {l : List UInt8} {ops : Array Oper} {o : Oper} {a : Act} {K : Act → World → Prop} {Q : Exit → Act → World → Prop} {E : Prop} (hgd : o.guard = none) (sl x : Operand) (t u : TypeId)
    (ho : o.op = .call { callee := .builtin .append, args := #[sl, x], argTypes := #[t, u] })
    (base : Nat) (e : TypeId) (i : TypeInfo) (ht : P.underlying t = some (.slice e)) (hu : P.underlying u = some .string) (hi : P.info? e = some i) (hz : i.zero = some (.int .u8 0))
    (hsize : i.size = 1) (hby : i.bytes = 1)
    (v : Value) (hs : a.eval sl = v) (hown : Own byteRep w base (fun _ => False) e v l) (hl : l ≠ []) (s : ByteArray) (hx : a.eval x = .string s)
    (hbytes : l.length + s.size ≤ 140737488355328) (hbase : base ≤ w.heap.size)
    (h : ∀ v' w', Own byteRep w' base (fun _ => False) e v' (l ++ s.data.toList) → w.grownBy w' (rowOf v) → K (a.put o.dst v') w') : if Region.wanted o (yielded ops a.tmps) = true then Oper.wp P o a w K Q else E := by
  have hw : Region.wanted o (yielded ops a.tmps) = true := by simp [Region.wanted, hgd]
  rw [if_pos hw]
  exact wp_append_Own_str sl x t u ho base e i ht hu hi hz hsize hby v hs hown hl s hx hbytes hbase h
end Go.Proofs.Ythhpddiicnjmmaa
