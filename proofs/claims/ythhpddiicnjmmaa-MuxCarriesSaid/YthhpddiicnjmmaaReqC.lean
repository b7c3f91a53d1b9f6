/- Plain facts on requests: which may be, as the code looks and as the document says. No walk. Contracts: req.one, req.list.may, req.May. Contracts: req.May, slices.Clone, req.Accept, req.list.place, req.Chunk, req.Open. Contract: req.Chunk. -/
import Derived.Test.YthhpddiicnjmmaaTypesM
import Derived.Lib.Hide
import Derived.BigGuardPart
import Derived.Deep.QuietTactic
import Derived.BigQuiet
namespace Go.Proofs.Ythhpddiicnjmmaa

/-- What a request may be by itself, behind another one's At. -/
def oneB (r : Req) (ahead : Int) : Bool := decide (0 ≤ r.table ∧ r.table < 8 ∧ 1 ≤ r.weight ∧ r.weight ≤ 8 ∧ ahead ≤ r.at_ ∧ 1 ≤ r.at_ ∧ r.at_ ≤ 1099511627776 ∧ 0 ≤ r.cursor ∧ r.cursor ≤ 1099511627776 ∧ 0 ≤ r.chunks ∧ r.chunks ≤ 1099511627776)

/-- The last At. -/
def aheadOf (pre : List Req) : Int := match pre.getLast? with | some r => r.at_ | none => 0

/-- Is the table's last request not done? -/
def openAt (pre : List Req) (t : Int) : Bool := pre.foldl (fun o r => if r.table = t then !r.done else o) false

def stepOk (pre : List Req) (x : Req) : Bool := decide (x.id = (pre.length : Int) + 1) && (oneB x (aheadOf pre) && !openAt pre x.table)

def okFrom (pre : List Req) : List Req → Bool
  | [] => true
  | x :: t => stepOk pre x && okFrom (pre ++ [x]) t

/-- May requests be? -/
def mayB (l : List Req) : Bool := okFrom [] l && decide (l.length ≤ 64)

theorem openAt_snoc (pre : List Req) (x : Req) (t : Int) : openAt (pre ++ [x]) t = if x.table = t then !x.done else openAt pre t := by
  unfold openAt; rw [List.foldl_append]; rfl

theorem aheadOf_snoc (pre : List Req) (x : Req) : aheadOf (pre ++ [x]) = x.at_ := by
  unfold aheadOf; simp

theorem okFrom_append : ∀ (l l' pre : List Req), okFrom pre (l ++ l') = (okFrom pre l && okFrom (pre ++ l) l')
  | [], l', pre => by simp [okFrom]
  | x :: t, l', pre => by rw [List.cons_append, okFrom, okFrom, okFrom_append t, Bool.and_assoc]; simp

theorem okFrom_take {l : List Req} {k : Nat} {x : Req} (hx : l[k]? = some x) : okFrom [] (l.take (k + 1)) = (okFrom [] (l.take k) && stepOk (l.take k) x) := by
  have hk : k < l.length := (List.getElem?_eq_some_iff.1 hx).1
  rw [List.getElem?_eq_getElem hk] at hx
  rw [List.take_succ_eq_append_getElem hk, okFrom_append, Option.some.inj hx, List.nil_append]
  simp [okFrom]

theorem okFrom_false {l : List Req} {k : Nat} (h : okFrom [] (l.take k) = false) : okFrom [] l = false := by
  have := okFrom_append (l.take k) (l.drop k) []
  rw [List.take_append_drop, h] at this
  simpa using this

/-! ### As the document says -/
/-- Is there a request for that table that is not done? -/
def clash (pre : List Req) (t : Int) : Bool := pre.any fun r => decide (r.table = t) && !r.done

theorem clash_snoc (pre : List Req) (x : Req) (t : Int) : clash (pre ++ [x]) t = (clash pre t || (decide (x.table = t) && !x.done)) := by
  unfold clash; simp

/-- Where all so far may be, the two tell the same. -/
theorem open_clash : ∀ (pre : List Req), okFrom [] pre = true → ∀ t, openAt pre t = clash pre t := by
  intro pre
  suffices h : ∀ (n : Nat) (pre : List Req), pre.length = n → okFrom [] pre = true → ∀ t, openAt pre t = clash pre t from h _ pre rfl
  intro n
  induction n with
  | zero => intro pre hp _ t; have := List.eq_nil_of_length_eq_zero hp; subst this; rfl
  | succ n ih =>
    intro pre hp hok t
    have hne : pre ≠ [] := by rintro rfl; simp at hp
    obtain ⟨q, x, rfl⟩ : ∃ q x, pre = q ++ [x] := ⟨pre.dropLast, pre.getLast hne, (List.dropLast_concat_getLast hne).symm⟩
    rw [okFrom_append, List.nil_append] at hok
    simp only [okFrom, Bool.and_true, Bool.and_eq_true] at hok
    have hq := ih q (by simp at hp; exact hp) hok.1
    rw [openAt_snoc, clash_snoc, hq t]
    by_cases hx : x.table = t
    · rw [if_pos hx]
      have h2 : openAt q x.table = false := by
        have := hok.2
        unfold stepOk at this
        simp at this
        exact this.2.2
      rw [hq, hx] at h2
      simp [hx, h2]
    · rw [if_neg hx]
      simp [hx]

def refStep (pre : List Req) (x : Req) : Bool := decide (x.id = (pre.length : Int) + 1) && (oneB x (aheadOf pre) && !clash pre x.table)

def refFrom (pre : List Req) : List Req → Bool
  | [] => true
  | x :: t => refStep pre x && refFrom (pre ++ [x]) t

theorem refFrom_append : ∀ (l l' pre : List Req), refFrom pre (l ++ l') = (refFrom pre l && refFrom (pre ++ l) l')
  | [], l', pre => by simp [refFrom]
  | x :: t, l', pre => by rw [List.cons_append, refFrom, refFrom, refFrom_append t, Bool.and_assoc]; simp

theorem ref_ok : ∀ (l pre : List Req), okFrom [] pre = true → refFrom pre l = okFrom pre l
  | [], _, _ => rfl
  | x :: t, pre, h => by
    have h1 : refStep pre x = stepOk pre x := by unfold refStep stepOk; rw [open_clash pre h]
    rw [refFrom, okFrom, h1]
    cases hs : stepOk pre x with
    | false => rfl
    | true =>
      rw [Bool.true_and, Bool.true_and]
      refine ref_ok t (pre ++ [x]) ?_
      rw [okFrom_append, h, List.nil_append]
      simp [okFrom, hs]

theorem refFrom_take {l : List Req} {k : Nat} {x : Req} (hx : l[k]? = some x) : refFrom [] (l.take (k + 1)) = (refFrom [] (l.take k) && refStep (l.take k) x) := by
  have hk : k < l.length := (List.getElem?_eq_some_iff.1 hx).1
  rw [List.getElem?_eq_getElem hk] at hx
  rw [List.take_succ_eq_append_getElem hk, refFrom_append, Option.some.inj hx, List.nil_append]
  simp [refFrom]

theorem refFrom_false {l : List Req} {k : Nat} (h : refFrom [] (l.take k) = false) : refFrom [] l = false := by
  have := refFrom_append (l.take k) (l.drop k) []
  rw [List.take_append_drop, h] at this
  simpa using this

theorem ref_all (l : List Req) : refFrom [] l = okFrom [] l := ref_ok l [] rfl
end Go.Proofs.Ythhpddiicnjmmaa

namespace Go.Proofs.Ythhpddiicnjmmaa
open Go.RowKit

theorem ret_boolR {a b : Bool} (h : a = b) : Ending.returned (.bool a) = .returned (.bool b) := by rw [h]

set_option maxHeartbeats 1000000 in
theorem one_any (r : Req) (ahead : Int) (w : World) :
    Calls Try.prog 161 #[.agg #[.int .i64 r.id, .int .i64 r.table, .int .i64 r.weight, .int .i64 r.at_, .int .i64 r.cursor, .int .i64 r.chunks, .bool r.done], .int .i64 ahead] w fun e w' => e = .returned (.bool (oneB r ahead)) ∧ Below w.heap.size w w' := by
  go_enter Try.func161, Try.ntmps161
  go_wp2
  all_goals
    go_ret
    refine ⟨ret_boolR ?_, (Below.refl _ _).alloc (Nat.le_refl _) _⟩
    unfold oneB
    rw [Bool.eq_iff_iff]
    simp
    omega

/-- What the array of open tables holds. -/
def OpenCells (w : World) (g : Nat) (pre : List Req) : Prop := ∀ t : Nat, t < 8 → w.cell? ⟨g, t, none⟩ = some (.bool (openAt pre t)) ∧ w.frozen? ⟨g, t, none⟩ = false

theorem OpenCells.keep {w w' : World} {g : Nat} {pre : List Req} (h : OpenCells w g pre) (hb : Below (g + 1) w w') : OpenCells w' g pre := fun t ht =>
  ⟨(hb.cell (p := ⟨g, t, none⟩) (by simp)).trans (h t ht).1, (hb.frozen (p := ⟨g, t, none⟩) (by simp)).trans (h t ht).2⟩

theorem OpenCells.step {w : World} {g : Nat} {pre : List Req} {x : Req} {t : Nat} (h : OpenCells w g pre) (ht : x.table = (t : Int)) (_h8 : t < 8) : OpenCells (w.setCell ⟨g, t, none⟩ (.bool (!x.done))) g (pre ++ [x]) := by
  intro u hu
  constructor
  · rw [openAt_snoc]
    by_cases e : u = t
    · subst e
      rw [if_pos ht]
      exact World.cell?_setCell_same w _ _ (h u hu).1
    · rw [if_neg (by omega), World.cell?_setCell_other _ _ _ _ (by intro e2; injection e2 with _ e3; exact e e3.symm)]
      exact (h u hu).1
  · have := (h u hu).2
    simpa using this

set_option maxHeartbeats 1000000 in
theorem may_any (A : Option Addr) (n c : Nat) (l : List Req) (w : World) (h : IsSl reqRep w (· < w.heap.size) A n l) (hn : n ≤ 1000000) :
    Calls Try.prog 153 #[.slice A n c] w fun e w' => e = .returned (.bool (mayB l)) ∧ Below w.heap.size w w' := by
  have HL := Lib.hid h.len
  go_enter Try.func153, Try.ntmps153
  go_wp2
  go_loopw [2, 4, 5, 6, 9] (fun _ ah _ _ i wr => ∃ k : Nat, k ≤ n ∧ i = .int .i64 k ∧ ah = .int .i64 (aheadOf (l.take k)) ∧ OpenCells wr w.heap.size (l.take k) ∧ okFrom [] (l.take k) = true ∧ Below w.heap.size w wr ∧ w.heap.size + 1 ≤ wr.heap.size) (fun _ _ _ _ i _ => n - (intOf i).toNat)
  case atStart =>
    refine ⟨0, Nat.zero_le _, rfl, rfl, ?_, rfl, (Below.refl _ _).alloc (Nat.le_refl _) _, by simp⟩
    intro t ht
    refine ⟨?_, by simp⟩
    rw [World.cell?_alloc_at _ _ _ _ rfl]
    match t, ht with
    | 0, _ | 1, _ | 2, _ | 3, _ | 4, _ | 5, _ | 6, _ | 7, _ => rfl
  case round =>
    obtain ⟨k, hk, rfl, rfl, hop, hok, hbel, hsz⟩ := hrel
    have HOK := Lib.hid hok
    have HOP := Lib.hid hop
    clear hok hop
    by_cases hlt : k < n
    · obtain ⟨b, off, x, cs, rfl, hbS, hx, ⟨rfl, hwf⟩, hc⟩ := h.at_ hlt
      have hcc : ∀ (j : Nat) (u : Value), x.cells[j]? = some u → wr.cell? ⟨b, off + k * 7 + j, none⟩ = some u := fun j u hu => (hbel.cell (p := ⟨b, off + k * 7 + j, none⟩) hbS).trans (hc j u hu)
      have c0 : wr.cell? ⟨b, off + k * 7, none⟩ = some (.int .i64 x.id) := hcc 0 _ rfl
      have c1 : wr.cell? ⟨b, off + k * 7 + 1, none⟩ = some (.int .i64 x.table) := hcc 1 _ rfl
      have c2 : wr.cell? ⟨b, off + k * 7 + 2, none⟩ = some (.int .i64 x.weight) := hcc 2 _ rfl
      have c3 : wr.cell? ⟨b, off + k * 7 + 3, none⟩ = some (.int .i64 x.at_) := hcc 3 _ rfl
      have c4 : wr.cell? ⟨b, off + k * 7 + 4, none⟩ = some (.int .i64 x.cursor) := hcc 4 _ rfl
      have c5 : wr.cell? ⟨b, off + k * 7 + 5, none⟩ = some (.int .i64 x.chunks) := hcc 5 _ rfl
      have c6 : wr.cell? ⟨b, off + k * 7 + 6, none⟩ = some (.bool x.done) := hcc 6 _ rfl
      have HT := Lib.hid (okFrom_take hx)
      have HX := Lib.hid hx
      have hkl : (l.take k).length = k := by rw [List.length_take, ← HL.out]; omega
      have HKL := Lib.hid hkl
      obtain ⟨pre, hpre⟩ : ∃ pre, pre = l.take k := ⟨_, rfl⟩
      have HPRE := Lib.hid hpre
      rw [← hpre] at HT HOK HOP HKL ⊢
      clear hc hcc h hx hkl hpre
      by_cases hid : x.id = (k : Int) + 1
      · have hidb : (x.id != (k : Int) + 1) = false := by simp [hid]
        have HID := Lib.hid hid
        clear hid
        obtain ⟨ob, hob⟩ : ∃ ob, ob = oneB x (aheadOf pre) := ⟨_, rfl⟩
        have HOB := Lib.hid hob
        have hW : Below w.heap.size w (wr.alloc (.cells #[.int .i64 x.id, .int .i64 x.table, .int .i64 x.weight, .int .i64 x.at_, .int .i64 x.cursor, .int .i64 x.chunks, .bool x.done] 94)) := hbel.alloc (by omega) _
        have HST := Lib.hid (show stepOk pre x = (oneB x (aheadOf pre) && !openAt pre x.table) by unfold stepOk; rw [HKL.out]; simp [HID.out])
        have HOP2 := Lib.hid ((HOP.out).keep ((Below.refl (w.heap.size + 1) wr).alloc hsz (.cells #[.int .i64 x.id, .int .i64 x.table, .int .i64 x.weight, .int .i64 x.at_, .int .i64 x.cursor, .int .i64 x.chunks, .bool x.done] 94)))
        clear hob
        cases ob with
        | false =>
          go_wp2_with (go_at_call 161; (with_reducible refine (one_any x (aheadOf pre) _).mono ?_); rintro e w2 ⟨rfl, hb2⟩; rw [← HOB.out])
          go_ret
          exact ⟨ret_boolR (by rw [mayB, okFrom_false (k := k + 1) (by rw [HT.out, HST.out, ← HOB.out]; simp)]; rfl), hW.trans (hb2.mono hW.size)⟩
        | true =>
          have htb : 0 ≤ x.table ∧ x.table < 8 := by
            have := HOB.out
            unfold oneB at this
            have := of_decide_eq_true this.symm
            omega
          obtain ⟨htb0, htb8⟩ := htb
          obtain ⟨oa, hoa⟩ : ∃ oa, oa = openAt pre x.table := ⟨_, rfl⟩
          have HOA := Lib.hid hoa
          clear hoa
          cases oa with
          | true =>
            go_wp2_with (go_at_call 161; (with_reducible refine (one_any x (aheadOf pre) _).mono ?_); rintro e w2 ⟨rfl, hb2⟩; rw [← HOB.out]; have hz2 := hb2.size; have f1 : w2.cell? ⟨wr.heap.size, 1, none⟩ = some (.int .i64 x.table) := (hb2.cell (p := ⟨wr.heap.size, 1, none⟩) (by simp)).trans (World.cell?_alloc_at _ _ _ _ rfl); have f2 : w2.cell? ⟨w.heap.size, x.table.toNat, none⟩ = some (.bool true) := (by have f3 := (((HOP2.out).keep (hb2.mono (by simp; omega))) x.table.toNat (by omega)).1; rw [Int.toNat_of_nonneg htb0, ← HOA.out] at f3; exact f3))
            go_ret
            exact ⟨ret_boolR (by rw [mayB, okFrom_false (k := k + 1) (by rw [HT.out, HST.out, ← HOA.out]; simp)]; rfl), hW.trans (hb2.mono hW.size)⟩
          | false =>
            go_wp2_with (go_at_call 161; (with_reducible refine (one_any x (aheadOf pre) _).mono ?_); rintro e w2 ⟨rfl, hb2⟩; rw [← HOB.out]; have hz2 := hb2.size; have f1 : w2.cell? ⟨wr.heap.size, 1, none⟩ = some (.int .i64 x.table) := (hb2.cell (p := ⟨wr.heap.size, 1, none⟩) (by simp)).trans (World.cell?_alloc_at _ _ _ _ rfl); have f4 : w2.cell? ⟨wr.heap.size, 3, none⟩ = some (.int .i64 x.at_) := (hb2.cell (p := ⟨wr.heap.size, 3, none⟩) (by simp)).trans (World.cell?_alloc_at _ _ _ _ rfl); have f6 : w2.cell? ⟨wr.heap.size, 6, none⟩ = some (.bool x.done) := (hb2.cell (p := ⟨wr.heap.size, 6, none⟩) (by simp)).trans (World.cell?_alloc_at _ _ _ _ rfl); have HOP3 := Lib.hid ((HOP2.out).keep (hb2.mono (by simp; omega))); have f2 : w2.cell? ⟨w.heap.size, x.table.toNat, none⟩ = some (.bool false) := (by have f3 := ((HOP3.out) x.table.toNat (by omega)).1; rw [Int.toNat_of_nonneg htb0, ← HOA.out] at f3; exact f3); have f5 : w2.frozen? ⟨w.heap.size, x.table.toNat, none⟩ = false := ((HOP3.out) x.table.toNat (by omega)).2)
            go_region
            go_wp2
            go_roundw
            case rel =>
              have hbw2 : Below w.heap.size w w2 := hW.trans (hb2.mono hW.size)
              have htk : l.take (k + 1) = pre ++ [x] := by
                have hxx := HX.out
                have hkl : k < l.length := (List.getElem?_eq_some_iff.1 hxx).1
                rw [List.getElem?_eq_getElem hkl] at hxx
                rw [List.take_succ_eq_append_getElem hkl, Option.some.inj hxx, ← HPRE.out]
              refine ⟨k + 1, by omega, by go_num, ?_, ?_, ?_, ?_, ?_⟩
              · rw [htk, aheadOf_snoc]
              · rw [htk]
                exact OpenCells.step (t := x.table.toNat) (w := w2.drew) HOP3.out (Int.toNat_of_nonneg htb0).symm (by omega)
              · rw [HT.out, HOK.out, HST.out, ← HOB.out, ← HOA.out]; rfl
              · exact (hbw2.drew).setCell (Nat.le_refl _) _
              · simp at hz2 ⊢; omega
            case measure => simp [intOf]; omega
      · have hidb : (x.id != (k : Int) + 1) = true := by simp [hid]
        have hs : stepOk pre x = false := by unfold stepOk; rw [HKL.out]; simp [hid]
        have HS := Lib.hid hs
        clear hid hs
        go_wp2_with fail
        go_ret
        exact ⟨ret_boolR (by rw [mayB, okFrom_false (k := k + 1) (by rw [HT.out, HS.out, Bool.and_false])]; rfl), (hbel.alloc (by omega) _)⟩
    · have hge : n ≤ k := by omega
      have e1 : okFrom [] l = true := by have := HOK.out; rwa [List.take_of_length_le (by rw [← HL.out]; exact hge)] at this
      have E1 := Lib.hid e1
      clear e1
      go_wp2_with fail
      go_ret
      exact ⟨ret_boolR (by rw [mayB, E1.out, ← HL.out, Bool.true_and, decide_eq_decide]; omega), hbel⟩
end Go.Proofs.Ythhpddiicnjmmaa

namespace Go.Proofs.Ythhpddiicnjmmaa
open Go.RowKit

theorem info_req : (Try.prog.info? 94).map (fun i => (i.zero, i.size, i.bytes)) = some (some (.agg #[.int .i64 0, .int .i64 0, .int .i64 0, .int .i64 0, .int .i64 0, .int .i64 0, .bool false]), 7, 56) := by kernel_rfl

set_option maxHeartbeats 400000 in
theorem May_any (A : Option Addr) (n c : Nat) (l : List Req) (w : World) (h : IsSl reqRep w (· < w.heap.size) A n l) (hn : n ≤ 1000000) :
    Calls Try.prog 130 #[.slice A n c] w fun e w' => e = .returned (.bool (mayB l)) ∧ Below w.heap.size w w' := by
  have H := Lib.hid h
  clear h
  go_enter Try.func130, Try.ntmps130
  go_wp2_with (go_at_call 153; (with_reducible refine (may_any A n c l _ H.out hn).mono ?_); rintro e w2 ⟨rfl, hb2⟩)
  go_ret
  exact ⟨rfl, hb2⟩

theorem IsSl.none_nil {α : Type} {R : Rep α} {w : World} {S : Nat → Prop} {n : Nat} {l : List α} (h : IsSl R w S none n l) : n = 0 ∧ l = [] := by
  have h1 := h.len
  rcases Nat.eq_zero_or_pos n with h0 | h0
  · exact ⟨h0, List.eq_nil_of_length_eq_zero (by omega)⟩
  · obtain ⟨_, _, _, _, e, _⟩ := h.at_ (k := 0) h0
    cases e

set_option maxHeartbeats 400000 in
theorem cloneReq_any (A : Option Addr) (n c : Nat) (l : List Req) (w : World) (h : IsSl reqRep w (· < w.heap.size) A n l) (hn : n ≤ 1000000) :
    Calls Try.prog 75 #[.slice A n c] w fun e w' => ∃ v, e = .returned v ∧ Own reqRep w' w.heap.size (fun _ => False) 94 v l ∧ Below w.heap.size w w' := by
  obtain ⟨i0, hi, hz0, hz1, hz2⟩ := info_parts info_req
  have hq := fun W : World => run_eql_nil_at (P := Try.prog) W 86 94 A n c Try.underlying86
  have hb0 : Below w.heap.size w (w.alloc (.cells #[] 94)) := (Below.refl _ _).alloc (Nat.le_refl _) _
  cases A with
  | none =>
    obtain ⟨rfl, rfl⟩ := h.none_nil
    go_enter Try.func75, Try.ntmps75
    go_wp2
    go_ret
    exact ⟨_, rfl, Own.nil _ _ _ (fun _ h => h.elim) _ _, Below.refl _ _⟩
  | some a =>
    have H := Lib.hid h
    clear h
    go_enter Try.func75, Try.ntmps75
    go_wp2_with (at_builtin; refine wpList_append_Own _ rfl (.tmp 5) (.tmp 6) 86 rfl w.heap.size 94 i0 _ 56 Try.underlying86 hi hz0 hz1 hz2 rfl (R := reqRep) (S := fun _ => False) (l := []) (l' := l) (.slice (some ⟨w.heap.size, 0, none⟩) 0 0) rfl (Own.nil _ _ _ (fun _ h => h.elim) _ _) _ n c rfl ((H.out).srcF flat_req hb0) (by simp only [maxLen, List.length_nil]; omega) (by simp only [List.length_nil]; omega) (by omega) (by simp) ?_; intro v1 w1 own1 gr1 at1; have hb1 := hb0.grown gr1 (by simp) (by intro k hk; simp [rowOf] at hk); simp only [List.nil_append] at own1; clear gr1 at1)
    go_ret
    exact ⟨_, rfl, own1, hb1⟩

def acceptO (l : List Req) (table weight at_ : Int) : Option (List Req) :=
  if mayB l && mayB (l ++ [⟨(l.length : Int) + 1, table, weight, at_, 0, 0, false⟩]) then some (l ++ [⟨(l.length : Int) + 1, table, weight, at_, 0, 0, false⟩]) else none

/-- What a call that answers requests and a bool leaves. -/
def Answers (w : World) (o : Option (List Req)) (e : Ending) (w' : World) : Prop :=
  ∃ v, e = .returned (.tuple #[v, .bool o.isSome]) ∧ Own reqRep w' w.heap.size (fun _ => False) 94 v (o.getD []) ∧ Below w.heap.size w w'

set_option maxHeartbeats 1000000 in
theorem accept_any (A : Option Addr) (n c : Nat) (l : List Req) (table weight at_ : Int) (w : World) (h : IsSl reqRep w (· < w.heap.size) A n l) (hn : n ≤ 900000) (ht : I64 table) (hw : I64 weight) (ha : I64 at_) :
    Calls Try.prog 156 #[.slice A n c, .int .i64 table, .int .i64 weight, .int .i64 at_] w (Answers w (acceptO l table weight at_)) := by
  obtain ⟨i0, hi, hz0, hz1, hz2⟩ := info_parts info_req
  have hlen := h.len
  have hwf : (⟨(l.length : Int) + 1, table, weight, at_, 0, 0, false⟩ : Req).wf := by
    refine ⟨?_, ht, hw, ha, ?_, ?_⟩ <;> (unfold I64; dsimp only; omega)
  obtain ⟨l2, hl2⟩ : ∃ l2, l2 = l ++ [(⟨(l.length : Int) + 1, table, weight, at_, 0, 0, false⟩ : Req)] := ⟨_, rfl⟩
  have HO := Lib.hid (show acceptO l table weight at_ = if mayB l && mayB l2 then some l2 else none by rw [hl2]; rfl)
  rw [← hlen] at hl2 hwf
  have HL2 := Lib.hid hl2
  have h2len : l2.length = n + 1 := by rw [hl2]; simp; omega
  have H2 := Lib.hid h2len
  have HL := Lib.hid hlen
  have H := Lib.hid h
  obtain ⟨m1, hm1⟩ : ∃ m1, m1 = mayB l := ⟨_, rfl⟩
  obtain ⟨m2, hm2⟩ : ∃ m2, m2 = mayB l2 := ⟨_, rfl⟩
  rw [← hm1, ← hm2] at HO
  have HM1 := Lib.hid hm1
  have HM2 := Lib.hid hm2
  have hn1 : n ≤ 1000000 := by omega
  have hn2 : n + 1 ≤ 1000000 := by omega
  clear h hlen hl2 h2len hm1 hm2
  cases m1 <;> cases m2
  all_goals
    go_enter Try.func156, Try.ntmps156
    go_wp2_with (first
      | (go_at_call 75; (with_reducible refine (cloneReq_any A n c l _ H.out hn1).mono ?_); rintro e w1 ⟨v1, rfl, own1, bel1⟩; have hs1 := bel1.size; have hf1 := own1.form; rw [← HL.out] at hf1; obtain ⟨A1, c1, rfl⟩ := hf1)
      | (at_builtin; refine wpList_append_Own _ rfl (.tmp 12) (.tmp 20) 86 rfl w.heap.size 94 i0 _ 56 Try.underlying86 hi hz0 hz1 hz2 rfl (R := reqRep) (S := fun _ => False) (l := l) (l' := [⟨(n : Int) + 1, table, weight, at_, 0, 0, false⟩]) (.slice A1 n c1) rfl (own1.alloc _) _ 1 _ rfl (Src.new ⟨rfl, hwf⟩) (by simp only [maxLen]; rw [← HL.out]; omega) (by rw [← HL.out]; omega) (by omega) (by simp; omega) ?_; intro v2 w2 own2 gr2 at2; have bel2 : Below w.heap.size w w2 := (bel1.alloc hs1 _).grown gr2 (by simp; omega) (fun k hk => own1.row_ge hk); rw [← HL2.out] at own2; obtain ⟨A2, c2, rfl, h21, h22, sl2⟩ := own2.isSl (S' := (· < w2.heap.size)) (fun _ h => h.elim) (fun _ _ h => h); rw [H2.out] at sl2 own2 ⊢; have SL2 := Lib.hid sl2; have OWN2 := Lib.hid own2; have SL1 := Lib.hid (((H.out).below bel2).more bel2.size); have hs2 := bel2.size; clear gr2 at2 own2 sl2)
      | (go_at_call 130; (with_reducible refine (May_any A n c l _ SL1.out hn1).mono ?_); rintro e w3 ⟨rfl, bel3⟩; rw [← HM1.out]; have hs3 := bel3.size; have SL3 := Lib.hid (((SL2.out).below bel3).more hs3); have OWN3 := Lib.hid ((OWN2.out).below bel3); have bw3 : Below w.heap.size w w3 := bel2.trans (bel3.mono hs2))
      | (go_at_call 130; (with_reducible refine (May_any A2 (n + 1) c2 l2 _ SL3.out hn2).mono ?_); rintro e w4 ⟨rfl, bel4⟩; rw [← HM2.out]; have hs4 := bel4.size; have OWN4 := Lib.hid ((OWN3.out).below bel4); have bw4 : Below w.heap.size w w4 := bw3.trans (bel4.mono (by omega))))
    go_ret2
    unfold Answers
    rw [HO.out]
  · exact ⟨_, rfl, Own.nil _ _ _ (fun _ h => h.elim) _ _, bw3⟩
  · exact ⟨_, rfl, Own.nil _ _ _ (fun _ h => h.elim) _ _, bw3⟩
  · exact ⟨_, rfl, Own.nil _ _ _ (fun _ h => h.elim) _ _, bw4⟩
  · exact ⟨_, rfl, OWN4.out, bw4⟩

/-- The request of that number, where it is one that is not done. -/
def placed (l : List Req) (id : Int) : Option Req := if 1 ≤ id ∧ id ≤ (l.length : Int) then (l[(id - 1).toNat]?).bind (fun r => if r.done then none else some r) else none

theorem ret_two_int {k : IntKind} {a b : Int} {c d : Bool} (h : a = b) (h2 : c = d) : Ending.returned (.tuple #[.int k a, .bool c]) = .returned (.tuple #[.int k b, .bool d]) := by rw [h, h2]

set_option maxHeartbeats 1000000 in
theorem place_any (A : Option Addr) (n c : Nat) (l : List Req) (id : Int) (w : World) (h : IsSl reqRep w (· < w.heap.size) A n l) (_ : n ≤ 1000000) (hi : I64 id) :
    Calls Try.prog 159 #[.slice A n c, .int .i64 id] w fun e w' => e = .returned (.tuple #[.int .i64 (wrap64 (id - 1)), .bool (placed l id).isSome]) ∧ ∃ m, w' = w.drewN m := by
  have hlen := h.len
  unfold I64 at hi
  by_cases h1 : 1 ≤ id
  · have hg1 : id - 1 ≤ 9223372036854775807 := by omega
    have hg2 : 0 ≤ id - 1 := by omega
    by_cases h2 : id ≤ (n : Int)
    · obtain ⟨k, hk⟩ := Int.eq_ofNat_of_zero_le hg2
      obtain rfl : id = (k : Int) + 1 := by omega
      have hkn : k < n := by omega
      obtain ⟨b, off, x, cs, rfl, hbS, hx, ⟨rfl, hwf⟩, hc⟩ := h.at_ hkn
      have c6 : w.cell? ⟨b, off + k * 7 + 6, none⟩ = some (.bool x.done) := hc 6 _ rfl
      have hp : (placed l ((k : Int) + 1)).isSome = !x.done := by
        unfold placed
        rw [if_pos (by omega), show ((k : Int) + 1 - 1).toNat = k by omega, hx]
        show (if x.done = true then none else some x).isSome = !x.done
        cases x.done <;> rfl
      have HP := Lib.hid hp
      have hwr : IntKind.i64.wrap ((k : Int) + 1 - 1) = (k : Int) := by rw [IntWalk.i64_in _ ⟨by omega, by omega⟩]; omega
      have hw2 : wrap64 ((k : Int) + 1 - 1) = (k : Int) := by rw [IntWalk.wrap64_in _ ⟨by omega, by omega⟩]; omega
      have HW := Lib.hid hw2
      clear hk hc hx hp hw2 h hlen
      go_enter Try.func159, Try.ntmps159
      go_wp2
      go_quiet (fail)
      go_wp2
      go_ret2
      exact ⟨ret_two_int HW.out.symm HP.out.symm, _, rfl⟩
    · have hp : (placed l id).isSome = false := by
        unfold placed
        rw [if_neg (by omega)]; rfl
      have HP := Lib.hid hp
      have h3 : (n : Int) < id := by omega
      have hwr : IntKind.i64.wrap (id - 1) = id - 1 := IntWalk.i64_in _ ⟨by omega, by omega⟩
      have HW := Lib.hid (IntWalk.wrap64_in (id - 1) ⟨by omega, by omega⟩)
      have hd : decide (id ≤ (n : Int)) = false := by simp; omega
      clear h2 hp h hlen hi
      go_enter Try.func159, Try.ntmps159
      go_wp2
      go_quiet (fail)
      go_wp2
      go_ret2
      exact ⟨ret_two_int HW.out.symm HP.out.symm, _, rfl⟩
  · have hp : (placed l id).isSome = false := by
      unfold placed
      rw [if_neg (by omega)]; rfl
    have HP := Lib.hid hp
    have h3 : id < 1 := by omega
    have hwr : IntKind.i64.wrap (id - 1) = wrap64 (id - 1) := by rw [IntKind.wrap_i64]; unfold wrap64; rfl
    have hd : decide (1 ≤ id) = false := by simp; omega
    clear h1 hp h hlen hi
    go_enter Try.func159, Try.ntmps159
    go_wp2
    go_quiet (fail)
    go_wp2
    go_ret2
    exact ⟨ret_two_int rfl HP.out.symm, _, rfl⟩

def chunkO (l : List Req) (id cursor : Int) (done : Bool) : Option (List Req) :=
  match placed l id with
  | none => none
  | some r => if mayB l = true ∧ r.cursor ≤ cursor ∧ cursor ≤ 1099511627776 ∧ r.chunks < 1099511627776 then some (l.set (id - 1).toNat { r with cursor := cursor, done := done, chunks := r.chunks + 1 }) else none

/-- Those that are not done. -/
def openL (l : List Req) : List Req := l.filter fun r => !r.done

theorem openL_snoc {l : List Req} {p : Nat} {x : Req} (h : l[p]? = some x) : openL (l.take (p + 1)) = openL (l.take p) ++ (if x.done then [] else [x]) := by
  have hp : p < l.length := (List.getElem?_eq_some_iff.1 h).1
  have hx : l[p] = x := by rw [List.getElem?_eq_getElem hp] at h; exact Option.some.inj h
  unfold openL
  rw [List.take_succ_eq_append_getElem hp, List.filter_append, hx]
  cases hk : x.done <;> simp [hk]

theorem openL_len (l : List Req) (p : Nat) : (openL (l.take p)).length ≤ p := by
  unfold openL
  exact Nat.le_trans (List.length_filter_le _ _) (List.length_take_le _ _)

end Go.Proofs.Ythhpddiicnjmmaa

set_option maxRecDepth 100000
namespace Go.Proofs.Ythhpddiicnjmmaa
open Go.RowKit

theorem req_field {α : Type} {R : Rep α} {w : World} {S : Nat → Prop} {b off n k : Nat} {l : List α} {x : α} (h : IsSl R w S (some ⟨b, off, none⟩) n l) (hx : l[k]? = some x) : ∃ cs, S b ∧ R.rel w S x cs ∧ ∀ j u, cs[j]? = some u → w.cell? ⟨b, off + k * R.size + j, none⟩ = some u := by
  have hk : k < n := by rw [h.len]; exact (List.getElem?_eq_some_iff.1 hx).1
  obtain ⟨b', off', x', cs, hA, hS, hx', hr, hc⟩ := h.at_ hk
  injection hA with hA
  injection hA with h1 h2 _
  subst h1 h2
  rw [hx] at hx'
  obtain rfl := Option.some.inj hx'
  exact ⟨cs, hS, hr, hc⟩

/-- A request's cells where it is owned. -/
theorem own_req {w : World} {base g n cap k : Nat} {S : Nat → Prop} {e : TypeId} {l : List Req} {x : Req} (h : Own reqRep w base S e (.slice (some ⟨g, 0, none⟩) n cap) l) (hx : l[k]? = some x) (j : Nat) (hj : j < 7) :
    w.cell? ⟨g, k * 7 + j, none⟩ = x.cells[j]? ∧ w.frozen? ⟨g, k * 7 + j, none⟩ = false := by
  obtain ⟨cs, u, ⟨rfl, _⟩, hu, hc, hf⟩ := h.cellAt hx (j := j) hj
  exact ⟨hc.trans hu.symm, hf⟩

theorem own_req_set {w : World} {base g n cap k : Nat} {S : Nat → Prop} {e : TypeId} {l : List Req} {x y : Req} {j : Nat} {u : Value} (h : Own reqRep w base S e (.slice (some ⟨g, 0, none⟩) n cap) l) (hx : l[k]? = some x) (hj : j < 7) (hy : y.cells = x.cells.set j u) (hw : y.wf) :
    Own reqRep (w.setCell ⟨g, k * 7 + j, none⟩ u) base S e (.slice (some ⟨g, 0, none⟩) n cap) (l.set k y) :=
  Own.store (cs := x.cells) flat_req h hx (by rintro cs ⟨rfl, _⟩; rfl) hj ⟨hy.symm, hw⟩

theorem placed_some {l : List Req} {id : Int} {r : Req} (h : placed l id = some r) : 1 ≤ id ∧ id ≤ (l.length : Int) ∧ l[(id - 1).toNat]? = some r ∧ r.done = false := by
  unfold placed at h
  split at h
  · rename_i hr
    cases hx : l[(id - 1).toNat]? with
    | none => rw [hx] at h; cases h
    | some x =>
      rw [hx] at h
      have h' : (if x.done = true then none else some x) = some r := h
      cases hd : x.done with
      | true => rw [hd] at h'; cases h'
      | false =>
        rw [hd] at h'
        simp at h'
        subst h'
        exact ⟨hr.1, hr.2, rfl, hd⟩
  · cases h

set_option maxHeartbeats 1000000 in
theorem chunk_any (A : Option Addr) (n c : Nat) (l : List Req) (id cursor : Int) (done : Bool) (w : World) (h : IsSl reqRep w (· < w.heap.size) A n l) (hn : n ≤ 900000) (hid : I64 id) (hcu : I64 cursor) :
    Calls Try.prog 136 #[.slice A n c, .int .i64 id, .int .i64 cursor, .bool done] w (Answers w (chunkO l id cursor done)) := by
  obtain ⟨i0, hi, hz0, hz1, hz2⟩ := info_parts info_req
  have HL := Lib.hid h.len
  have H := Lib.hid h
  have hn1 : n ≤ 1000000 := by omega
  obtain ⟨m1, hm1⟩ : ∃ m1, m1 = mayB l := ⟨_, rfl⟩
  have HM1 := Lib.hid hm1
  clear hm1
  cases hp : placed l id with
  | none =>
    have HP := Lib.hid hp
    have HO := Lib.hid (show chunkO l id cursor done = none by unfold chunkO; rw [hp])
    clear hp h
    cases m1
    all_goals
      go_enter Try.func136, Try.ntmps136
      go_wp2_with (first
        | (go_at_call 159; (with_reducible refine (place_any A n c l id _ H.out hn1 hid).mono ?_); rintro e w1 ⟨rfl, m, rfl⟩; rw [HP.out]; have HD := Lib.hid (show IsSl reqRep (w.drewN m) (· < (w.drewN m).heap.size) _ n l from H.out.keep fun _ _ => rfl))
        | (go_at_call 130; (with_reducible refine (May_any A n c l (w.drewN m) HD.out hn1).mono ?_); rintro e w2 ⟨rfl, bel2⟩; rw [← HM1.out]; have bw2 : Below w.heap.size w w2 := below_of_drewN bel2))
      go_ret2
      unfold Answers
      rw [HO.out]
      exact ⟨_, rfl, Own.nil _ _ _ (fun _ h => h.elim) _ _, bw2⟩
  | some r => 
    have HP := Lib.hid hp
    obtain ⟨q1, q2, q3, q4⟩ := placed_some hp
    rw [← HL.out] at q2
    obtain ⟨k, hk⟩ := Int.eq_ofNat_of_zero_le (show 0 ≤ id - 1 by omega)
    obtain rfl : id = (k : Int) + 1 := by omega
    have hkt : ((k : Int) + 1 - 1).toNat = k := by omega
    rw [hkt] at q3
    have hkn : k < n := by omega
    obtain ⟨b, off, x, cs, rfl, hbS, hx, ⟨rfl, hwf⟩, hc⟩ := h.at_ hkn
    rw [q3] at hx
    obtain rfl := Option.some.inj hx
    have hrc : I64 r.cursor := hwf.2.2.2.2.1
    have hrk : I64 r.chunks := hwf.2.2.2.2.2
    have c4 : w.cell? ⟨b, off + k * 7 + 4, none⟩ = some (.int .i64 r.cursor) := hc 4 _ rfl
    have c5 : w.cell? ⟨b, off + k * 7 + 5, none⟩ = some (.int .i64 r.chunks) := hc 5 _ rfl
    have hw2 : wrap64 ((k : Int) + 1 - 1) = (k : Int) := by rw [IntWalk.wrap64_in _ ⟨by omega, by omega⟩]; omega
    have HW := Lib.hid hw2
    have HWF := Lib.hid hwf
    have HQ3 := Lib.hid q3
    have HKT := Lib.hid hkt
    have HNE := Lib.hid (show l ≠ [] by rintro rfl; simp at q3)
    clear hp h hc hx hw2 hwf q3 hkt hk
    cases m1 with
    | false =>
      have HO := Lib.hid (show chunkO l ((k : Int) + 1) cursor done = none by unfold chunkO; rw [HP.out, ← HM1.out]; simp)
      go_enter Try.func136, Try.ntmps136
      go_wp2_with (first
        | (go_at_call 159; (with_reducible refine (place_any _ n c l _ _ H.out hn1 hid).mono ?_); rintro e w1 ⟨rfl, m, rfl⟩; rw [HP.out, HW.out]; have HD := Lib.hid (show IsSl reqRep (w.drewN m) (· < (w.drewN m).heap.size) _ n l from H.out.keep fun _ _ => rfl))
        | (go_at_call 130; (with_reducible refine (May_any _ n c l (w.drewN m) HD.out hn1).mono ?_); rintro e w2 ⟨rfl, bel2⟩; rw [← HM1.out]; have bw2 : Below w.heap.size w w2 := below_of_drewN bel2))
      go_ret2
      unfold Answers
      rw [HO.out]
      exact ⟨_, rfl, Own.nil _ _ _ (fun _ h => h.elim) _ _, bw2⟩
    | true =>
      by_cases hgood : r.cursor ≤ cursor ∧ cursor ≤ 1099511627776 ∧ r.chunks < 1099511627776
      · have HO := Lib.hid (show chunkO l ((k : Int) + 1) cursor done = some (l.set k { r with cursor := cursor, done := done, chunks := r.chunks + 1 }) by unfold chunkO; rw [HP.out, ← HM1.out, HKT.out]; simp [hgood])
        obtain ⟨g1, g2, g3⟩ := hgood
        unfold I64 at hrk
        go_enter Try.func136, Try.ntmps136
        go_wp2_with (first
          | (go_at_call 159; (with_reducible refine (place_any _ n c l _ _ H.out hn1 hid).mono ?_); rintro e w1 ⟨rfl, m, rfl⟩; rw [HP.out, HW.out]; have HD := Lib.hid (show IsSl reqRep (w.drewN m) (· < (w.drewN m).heap.size) _ n l from H.out.keep fun _ _ => rfl))
          | (go_at_call 130; (with_reducible refine (May_any _ n c l (w.drewN m) HD.out hn1).mono ?_); rintro e w2 ⟨rfl, bel2⟩; rw [← HM1.out]; have bw2 : Below w.heap.size w w2 := below_of_drewN bel2; have d4 := (bw2.cell (p := ⟨b, off + k * 7 + 4, none⟩) hbS).trans c4; have d5 := (bw2.cell (p := ⟨b, off + k * 7 + 5, none⟩) hbS).trans c5; have hs2 := bw2.size; have H2 := Lib.hid (((H.out).below bw2).more hs2))
          | (go_at_call 75; (with_reducible refine (cloneReq_any _ n c l w2 H2.out hn1).mono ?_); rintro e w3 ⟨v3, rfl, own3, bel3⟩; have hf3 := own3.form1 HNE.out; rw [← HL.out] at hf3; obtain ⟨g, cap, rfl, hgB, hgl, hcp1, hcp2⟩ := hf3; have OWN := Lib.hid own3; have f4 : w3.cell? ⟨g, k * 7 + 4, none⟩ = some (.int .i64 r.cursor) := (own_req own3 HQ3.out 4 (by omega)).1; have f5 : w3.cell? ⟨g, k * 7 + 5, none⟩ = some (.int .i64 r.chunks) := (own_req own3 HQ3.out 5 (by omega)).1; have f6 : w3.cell? ⟨g, k * 7 + 6, none⟩ = some (.bool r.done) := (own_req own3 HQ3.out 6 (by omega)).1; have z4 := (own_req own3 HQ3.out 4 (by omega)).2; have z5 := (own_req own3 HQ3.out 5 (by omega)).2; have z6 := (own_req own3 HQ3.out 6 (by omega)).2; have bw3 : Below w.heap.size w w3 := bw2.trans (bel3.mono hs2); clear own3))
        go_ret2
        unfold Answers
        rw [HO.out]
        obtain ⟨u0, u1, u2, u3, u4, u5⟩ := HWF.out
        have own4 := own_req_set (y := { r with cursor := cursor }) (j := 4) (u := .int .i64 cursor) OWN.out HQ3.out (by omega) rfl ⟨u0, u1, u2, u3, hcu, u5⟩
        have hkl : k < l.length := by rw [← HL.out]; exact hkn
        have e1 : (l.set k { r with cursor := cursor })[k]? = some { r with cursor := cursor } := List.getElem?_set_self hkl
        have own5 := own_req_set (y := { r with cursor := cursor, done := done }) (j := 6) (u := .bool done) own4 e1 (by omega) rfl ⟨u0, u1, u2, u3, hcu, u5⟩
        rw [List.set_set] at own5
        have e2 : (l.set k { r with cursor := cursor, done := done })[k]? = some { r with cursor := cursor, done := done } := List.getElem?_set_self hkl
        have own6 := own_req_set (y := { r with cursor := cursor, done := done, chunks := r.chunks + 1 }) (j := 5) (u := .int .i64 (r.chunks + 1)) own5 e2 (by omega) rfl ⟨u0, u1, u2, u3, hcu, by unfold I64; dsimp only; omega⟩
        rw [List.set_set] at own6
        have hgw : w.heap.size ≤ g := Nat.le_trans hs2 hgB
        exact ⟨_, rfl, own6.mono hs2, ((bw3.setCell hgw _).setCell hgw _).setCell hgw _⟩
      · have HO := Lib.hid (show chunkO l ((k : Int) + 1) cursor done = none by unfold chunkO; rw [HP.out, ← HM1.out]; simp [hgood])
        have hbad : cursor < r.cursor ∨ (r.cursor ≤ cursor ∧ 1099511627776 < cursor) ∨ (r.cursor ≤ cursor ∧ cursor ≤ 1099511627776 ∧ 1099511627776 ≤ r.chunks) := by omega
        clear hgood
        rcases hbad with hb1 | ⟨hb1, hb2⟩ | ⟨hb1, hb2, hb3⟩
        all_goals
          go_enter Try.func136, Try.ntmps136
          go_wp2_with (first
            | (go_at_call 159; (with_reducible refine (place_any _ n c l _ _ H.out hn1 hid).mono ?_); rintro e w1 ⟨rfl, m, rfl⟩; rw [HP.out, HW.out]; have HD := Lib.hid (show IsSl reqRep (w.drewN m) (· < (w.drewN m).heap.size) _ n l from H.out.keep fun _ _ => rfl))
            | (go_at_call 130; (with_reducible refine (May_any _ n c l (w.drewN m) HD.out hn1).mono ?_); rintro e w2 ⟨rfl, bel2⟩; rw [← HM1.out]; have bw2 : Below w.heap.size w w2 := below_of_drewN bel2; have d4 := (bw2.cell (p := ⟨b, off + k * 7 + 4, none⟩) hbS).trans c4; have d5 := (bw2.cell (p := ⟨b, off + k * 7 + 5, none⟩) hbS).trans c5))
          go_ret2
          unfold Answers
          rw [HO.out]
          exact ⟨_, rfl, Own.nil _ _ _ (fun _ h => h.elim) _ _, bw2⟩
end Go.Proofs.Ythhpddiicnjmmaa
