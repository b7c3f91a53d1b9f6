/- Contracts: req.May, slices.Clone, req.Accept, req.list.place, req.Chunk, req.Open. -/
import Derived.Test.YtmnjjmgdeiejkaaReq
import Derived.Deep.QuietTactic
import Derived.BigQuiet
namespace Go.Proofs.Ytmnjjmgdeiejkaa
open Go.RowKit

theorem info_req : (Try.prog.info? 54).map (fun i => (i.zero, i.size, i.bytes)) = some (some (.agg #[.int .i64 0, .int .i64 0, .int .i64 0, .int .i64 0, .int .i64 0, .int .i64 0, .bool false]), 7, 56) := by kernel_rfl

set_option maxHeartbeats 400000 in
theorem May_any (A : Option Addr) (n c : Nat) (l : List Req) (w : World) (h : IsSl reqRep w (· < w.heap.size) A n l) (hn : n ≤ 1000000) :
    Calls Try.prog 38 #[.slice A n c] w fun e w' => e = .returned (.bool (mayB l)) ∧ Below w.heap.size w w' := by
  have H := Lib.hid h
  clear h
  go_enter Try.func38, Try.ntmps38
  go_wp2_with (go_at_call 48; (with_reducible refine (may_any A n c l _ H.out hn).mono ?_); rintro e w2 ⟨rfl, hb2⟩)
  go_ret
  exact ⟨rfl, hb2⟩

theorem IsSl.none_nil {α : Type} {R : Rep α} {w : World} {S : Nat → Prop} {n : Nat} {l : List α} (h : IsSl R w S none n l) : n = 0 ∧ l = [] := by
  have h1 := h.len
  rcases Nat.eq_zero_or_pos n with h0 | h0
  · exact ⟨h0, List.eq_nil_of_length_eq_zero (by omega)⟩
  · obtain ⟨_, _, _, _, e, _⟩ := h.at_ (k := 0) h0
    cases e

set_option maxHeartbeats 400000 in
theorem cloneReq_any (A : Option Addr) (n c : Nat) (l : List Req) (w : World) (h : IsSl reqRep w (· < w.heap.size) A n l) (hn : n ≤ 1000000) :
    Calls Try.prog 44 #[.slice A n c] w fun e w' => ∃ v, e = .returned v ∧ Own reqRep w' w.heap.size (fun _ => False) 54 v l ∧ Below w.heap.size w w' := by
  obtain ⟨i0, hi, hz0, hz1, hz2⟩ := info_parts info_req
  have hq := fun W : World => run_eql_nil_at (P := Try.prog) W 48 54 A n c Try.underlying48
  have hb0 : Below w.heap.size w (w.alloc (.cells #[] 54)) := (Below.refl _ _).alloc (Nat.le_refl _) _
  cases A with
  | none =>
    obtain ⟨rfl, rfl⟩ := h.none_nil
    go_enter Try.func44, Try.ntmps44
    go_wp2
    go_ret
    exact ⟨_, rfl, Own.nil _ _ _ (fun _ h => h.elim) _ _, Below.refl _ _⟩
  | some a =>
    have H := Lib.hid h
    clear h
    go_enter Try.func44, Try.ntmps44
    go_wp2_with (at_builtin; refine wpList_append_Own _ rfl (.tmp 5) (.tmp 6) 48 rfl w.heap.size 54 i0 _ 56 Try.underlying48 hi hz0 hz1 hz2 rfl (R := reqRep) (S := fun _ => False) (l := []) (l' := l) (.slice (some ⟨w.heap.size, 0, none⟩) 0 0) rfl (Own.nil _ _ _ (fun _ h => h.elim) _ _) _ n c rfl ((H.out).srcF flat_req hb0) (by simp only [maxLen, List.length_nil]; omega) (by simp only [List.length_nil]; omega) (by omega) (by simp) ?_; intro v1 w1 own1 gr1 at1; have hb1 := hb0.grown gr1 (by simp) (by intro k hk; simp [rowOf] at hk); simp only [List.nil_append] at own1; clear gr1 at1)
    go_ret
    exact ⟨_, rfl, own1, hb1⟩

def acceptO (l : List Req) (table weight at_ : Int) : Option (List Req) :=
  if mayB l && mayB (l ++ [⟨(l.length : Int) + 1, table, weight, at_, 0, 0, false⟩]) then some (l ++ [⟨(l.length : Int) + 1, table, weight, at_, 0, 0, false⟩]) else none

/-- What a call that answers requests and a bool leaves. -/
def Answers (w : World) (o : Option (List Req)) (e : Ending) (w' : World) : Prop :=
  ∃ v, e = .returned (.tuple #[v, .bool o.isSome]) ∧ Own reqRep w' w.heap.size (fun _ => False) 54 v (o.getD []) ∧ Below w.heap.size w w'

set_option maxHeartbeats 1000000 in
theorem accept_any (A : Option Addr) (n c : Nat) (l : List Req) (table weight at_ : Int) (w : World) (h : IsSl reqRep w (· < w.heap.size) A n l) (hn : n ≤ 900000) (ht : I64 table) (hw : I64 weight) (ha : I64 at_) :
    Calls Try.prog 30 #[.slice A n c, .int .i64 table, .int .i64 weight, .int .i64 at_] w (Answers w (acceptO l table weight at_)) := by
  obtain ⟨i0, hi, hz0, hz1, hz2⟩ := info_parts info_req
  have hlen := h.len
  have hwf : (⟨(l.length : Int) + 1, table, weight, at_, 0, 0, false⟩ : Req).wf := by
    refine ⟨?_, ht, hw, ha, ?_, ?_⟩ <;> (unfold I64; dsimp only; omega)
  obtain ⟨l2, hl2⟩ : ∃ l2, l2 = l ++ [(⟨(l.length : Int) + 1, table, weight, at_, 0, 0, false⟩ : Req)] := ⟨_, rfl⟩
  have HO := Lib.hid (show acceptO l table weight at_ = if mayB l && mayB l2 then some l2 else none by rw [hl2]; rfl)
  rw [← hlen] at hl2 hwf
  have HL2 := Lib.hid hl2
  have h2len : l2.length = n + 1 := by rw [hl2]; simp; omega
  have H2 := Lib.hid h2len
  have HL := Lib.hid hlen
  have H := Lib.hid h
  obtain ⟨m1, hm1⟩ : ∃ m1, m1 = mayB l := ⟨_, rfl⟩
  obtain ⟨m2, hm2⟩ : ∃ m2, m2 = mayB l2 := ⟨_, rfl⟩
  rw [← hm1, ← hm2] at HO
  have HM1 := Lib.hid hm1
  have HM2 := Lib.hid hm2
  have hn1 : n ≤ 1000000 := by omega
  have hn2 : n + 1 ≤ 1000000 := by omega
  clear h hlen hl2 h2len hm1 hm2
  cases m1 <;> cases m2
  all_goals
    go_enter Try.func30, Try.ntmps30
    go_wp2_with (first
      | (go_at_call 44; (with_reducible refine (cloneReq_any A n c l _ H.out hn1).mono ?_); rintro e w1 ⟨v1, rfl, own1, bel1⟩; have hs1 := bel1.size; have hf1 := own1.form; rw [← HL.out] at hf1; obtain ⟨A1, c1, rfl⟩ := hf1)
      | (at_builtin; refine wpList_append_Own _ rfl (.tmp 12) (.tmp 20) 48 rfl w.heap.size 54 i0 _ 56 Try.underlying48 hi hz0 hz1 hz2 rfl (R := reqRep) (S := fun _ => False) (l := l) (l' := [⟨(n : Int) + 1, table, weight, at_, 0, 0, false⟩]) (.slice A1 n c1) rfl (own1.alloc _) _ 1 _ rfl (Src.new ⟨rfl, hwf⟩) (by simp only [maxLen]; rw [← HL.out]; omega) (by rw [← HL.out]; omega) (by omega) (by simp; omega) ?_; intro v2 w2 own2 gr2 at2; have bel2 : Below w.heap.size w w2 := (bel1.alloc hs1 _).grown gr2 (by simp; omega) (fun k hk => own1.row_ge hk); rw [← HL2.out] at own2; obtain ⟨A2, c2, rfl, h21, h22, sl2⟩ := own2.isSl (S' := (· < w2.heap.size)) (fun _ h => h.elim) (fun _ _ h => h); rw [H2.out] at sl2 own2 ⊢; have SL2 := Lib.hid sl2; have OWN2 := Lib.hid own2; have SL1 := Lib.hid (((H.out).below bel2).more bel2.size); have hs2 := bel2.size; clear gr2 at2 own2 sl2)
      | (go_at_call 38; (with_reducible refine (May_any A n c l _ SL1.out hn1).mono ?_); rintro e w3 ⟨rfl, bel3⟩; rw [← HM1.out]; have hs3 := bel3.size; have SL3 := Lib.hid (((SL2.out).below bel3).more hs3); have OWN3 := Lib.hid ((OWN2.out).below bel3); have bw3 : Below w.heap.size w w3 := bel2.trans (bel3.mono hs2))
      | (go_at_call 38; (with_reducible refine (May_any A2 (n + 1) c2 l2 _ SL3.out hn2).mono ?_); rintro e w4 ⟨rfl, bel4⟩; rw [← HM2.out]; have hs4 := bel4.size; have OWN4 := Lib.hid ((OWN3.out).below bel4); have bw4 : Below w.heap.size w w4 := bw3.trans (bel4.mono (by omega))))
    go_ret2
    unfold Answers
    rw [HO.out]
  · exact ⟨_, rfl, Own.nil _ _ _ (fun _ h => h.elim) _ _, bw3⟩
  · exact ⟨_, rfl, Own.nil _ _ _ (fun _ h => h.elim) _ _, bw3⟩
  · exact ⟨_, rfl, Own.nil _ _ _ (fun _ h => h.elim) _ _, bw4⟩
  · exact ⟨_, rfl, OWN4.out, bw4⟩

/-- The request of that number, where it is one that is not done. -/
def placed (l : List Req) (id : Int) : Option Req := if 1 ≤ id ∧ id ≤ (l.length : Int) then (l[(id - 1).toNat]?).bind (fun r => if r.done then none else some r) else none

theorem ret_two_int {k : IntKind} {a b : Int} {c d : Bool} (h : a = b) (h2 : c = d) : Ending.returned (.tuple #[.int k a, .bool c]) = .returned (.tuple #[.int k b, .bool d]) := by rw [h, h2]

set_option maxHeartbeats 1000000 in
theorem place_any (A : Option Addr) (n c : Nat) (l : List Req) (id : Int) (w : World) (h : IsSl reqRep w (· < w.heap.size) A n l) (_ : n ≤ 1000000) (hi : I64 id) :
    Calls Try.prog 45 #[.slice A n c, .int .i64 id] w fun e w' => e = .returned (.tuple #[.int .i64 (wrap64 (id - 1)), .bool (placed l id).isSome]) ∧ ∃ m, w' = w.drewN m := by
  have hlen := h.len
  unfold I64 at hi
  by_cases h1 : 1 ≤ id
  · have hg1 : id - 1 ≤ 9223372036854775807 := by omega
    have hg2 : 0 ≤ id - 1 := by omega
    by_cases h2 : id ≤ (n : Int)
    · obtain ⟨k, hk⟩ := Int.eq_ofNat_of_zero_le hg2
      obtain rfl : id = (k : Int) + 1 := by omega
      have hkn : k < n := by omega
      obtain ⟨b, off, x, cs, rfl, hbS, hx, ⟨rfl, hwf⟩, hc⟩ := h.at_ hkn
      have c6 : w.cell? ⟨b, off + k * 7 + 6, none⟩ = some (.bool x.done) := hc 6 _ rfl
      have hp : (placed l ((k : Int) + 1)).isSome = !x.done := by
        unfold placed
        rw [if_pos (by omega), show ((k : Int) + 1 - 1).toNat = k by omega, hx]
        show (if x.done = true then none else some x).isSome = !x.done
        cases x.done <;> rfl
      have HP := Lib.hid hp
      have hwr : IntKind.i64.wrap ((k : Int) + 1 - 1) = (k : Int) := by rw [IntWalk.i64_in _ ⟨by omega, by omega⟩]; omega
      have hw2 : wrap64 ((k : Int) + 1 - 1) = (k : Int) := by rw [IntWalk.wrap64_in _ ⟨by omega, by omega⟩]; omega
      have HW := Lib.hid hw2
      clear hk hc hx hp hw2 h hlen
      go_enter Try.func45, Try.ntmps45
      go_wp2
      go_quiet (fail)
      go_wp2
      go_ret2
      exact ⟨ret_two_int HW.out.symm HP.out.symm, _, rfl⟩
    · have hp : (placed l id).isSome = false := by
        unfold placed
        rw [if_neg (by omega)]; rfl
      have HP := Lib.hid hp
      have h3 : (n : Int) < id := by omega
      have hwr : IntKind.i64.wrap (id - 1) = id - 1 := IntWalk.i64_in _ ⟨by omega, by omega⟩
      have HW := Lib.hid (IntWalk.wrap64_in (id - 1) ⟨by omega, by omega⟩)
      have hd : decide (id ≤ (n : Int)) = false := by simp; omega
      clear h2 hp h hlen hi
      go_enter Try.func45, Try.ntmps45
      go_wp2
      go_quiet (fail)
      go_wp2
      go_ret2
      exact ⟨ret_two_int HW.out.symm HP.out.symm, _, rfl⟩
  · have hp : (placed l id).isSome = false := by
      unfold placed
      rw [if_neg (by omega)]; rfl
    have HP := Lib.hid hp
    have h3 : id < 1 := by omega
    have hwr : IntKind.i64.wrap (id - 1) = wrap64 (id - 1) := by rw [IntKind.wrap_i64]; unfold wrap64; rfl
    have hd : decide (1 ≤ id) = false := by simp; omega
    clear h1 hp h hlen hi
    go_enter Try.func45, Try.ntmps45
    go_wp2
    go_quiet (fail)
    go_wp2
    go_ret2
    exact ⟨ret_two_int rfl HP.out.symm, _, rfl⟩

def chunkO (l : List Req) (id cursor : Int) (done : Bool) : Option (List Req) :=
  match placed l id with
  | none => none
  | some r => if mayB l = true ∧ r.cursor ≤ cursor ∧ cursor ≤ 1099511627776 ∧ r.chunks < 1099511627776 then some (l.set (id - 1).toNat { r with cursor := cursor, done := done, chunks := r.chunks + 1 }) else none

/-- Those that are not done. -/
def openL (l : List Req) : List Req := l.filter fun r => !r.done

theorem openL_snoc {l : List Req} {p : Nat} {x : Req} (h : l[p]? = some x) : openL (l.take (p + 1)) = openL (l.take p) ++ (if x.done then [] else [x]) := by
  have hp : p < l.length := (List.getElem?_eq_some_iff.1 h).1
  have hx : l[p] = x := by rw [List.getElem?_eq_getElem hp] at h; exact Option.some.inj h
  unfold openL
  rw [List.take_succ_eq_append_getElem hp, List.filter_append, hx]
  cases hk : x.done <;> simp [hk]

theorem openL_len (l : List Req) (p : Nat) : (openL (l.take p)).length ≤ p := by
  unfold openL
  exact Nat.le_trans (List.length_filter_le _ _) (List.length_take_le _ _)

set_option maxHeartbeats 1000000 in
theorem open_any (A : Option Addr) (n c : Nat) (l : List Req) (w : World) (h : IsSl reqRep w (· < w.heap.size) A n l) (hn : n ≤ 1000000) :
    Calls Try.prog 35 #[.slice A n c] w fun e w' => ∃ v, e = .returned v ∧ Own reqRep w' w.heap.size (fun _ => False) 54 v (openL l) ∧ Below w.heap.size w w' := by
  obtain ⟨i0, hi, hz0, hz1, hz2⟩ := info_parts info_req
  have HL := Lib.hid h.len
  go_enter Try.func35, Try.ntmps35
  go_wp2
  go_loopw [3, 5, 8] (fun v _ i wr => ∃ p : Nat, i = .int .i64 p ∧ p ≤ n ∧ Own reqRep wr w.heap.size (fun _ => False) 54 v (openL (l.take p)) ∧ Below w.heap.size w wr) (fun _ _ i _ => n - (intOf i).toNat)
  case atStart => exact ⟨0, rfl, Nat.zero_le _, by simpa [openL] using Own.nil (R := reqRep) w w.heap.size (fun _ => False) (fun _ h => h.elim) _ none, Below.refl _ _⟩
  case round =>
    obtain ⟨p, rfl, hpn, hown, hbel⟩ := hrel
    have hpl := openL_len l p
    obtain ⟨A', cap, rfl⟩ := hown.form
    obtain ⟨F, hF⟩ : ∃ F, F = openL (l.take p) := ⟨_, rfl⟩
    rw [← hF] at hown hpl ⊢
    have HF := Lib.hid hF
    have HO := Lib.hid hown
    have hs0 := hbel.size
    clear hown hF
    by_cases hlt : p < n
    · obtain ⟨b, off, x, cs, rfl, hbS, hx, ⟨rfl, hwf⟩, hc⟩ := h.at_ hlt
      have hcc : ∀ (j : Nat) (u : Value), x.cells[j]? = some u → wr.cell? ⟨b, off + p * 7 + j, none⟩ = some u := fun j u hu => (hbel.cell (p := ⟨b, off + p * 7 + j, none⟩) hbS).trans (hc j u hu)
      have c0 : wr.cell? ⟨b, off + p * 7, none⟩ = some (.int .i64 x.id) := hcc 0 _ rfl
      have c1 : wr.cell? ⟨b, off + p * 7 + 1, none⟩ = some (.int .i64 x.table) := hcc 1 _ rfl
      have c2 : wr.cell? ⟨b, off + p * 7 + 2, none⟩ = some (.int .i64 x.weight) := hcc 2 _ rfl
      have c3 : wr.cell? ⟨b, off + p * 7 + 3, none⟩ = some (.int .i64 x.at_) := hcc 3 _ rfl
      have c4 : wr.cell? ⟨b, off + p * 7 + 4, none⟩ = some (.int .i64 x.cursor) := hcc 4 _ rfl
      have c5 : wr.cell? ⟨b, off + p * 7 + 5, none⟩ = some (.int .i64 x.chunks) := hcc 5 _ rfl
      have c6 : wr.cell? ⟨b, off + p * 7 + 6, none⟩ = some (.bool x.done) := hcc 6 _ rfl
      have HSN := Lib.hid (openL_snoc hx)
      clear hc hcc h hx
      cases hd : x.done with
      | true =>
        go_wp2
        go_roundw
        case rel =>
          have e := HSN.out
          rw [hd, if_pos rfl, List.append_nil, ← HF.out] at e
          exact ⟨p + 1, by go_num, by omega, by rw [e]; exact HO.out.alloc _, hbel.alloc hs0 _⟩
        case measure => simp [intOf]; omega
      | false =>
        go_wp2_with (at_builtin; refine wpList_append_Own _ rfl (.tmp 15) (.tmp 17) 48 rfl w.heap.size 54 i0 _ 56 Try.underlying48 hi hz0 hz1 hz2 rfl (R := reqRep) (S := fun _ => False) (l := F) (l' := [x]) (.slice A' F.length cap) rfl ((HO.out.alloc _).alloc _) _ 1 _ rfl ?_ (by simp only [maxLen]; omega) (by omega) (by omega) (by simp; omega) ?_; exact Src.one (cs := x.cells) ⟨rfl, hwf⟩ (by intro j u hu; rw [← hu]; simp [Req.cells, hd]); intro v2 w2 own2 gr2 at2; have hb2 := ((hbel.alloc hs0 _).alloc (by simp; omega) _).grown gr2 (by simp; omega) (fun k hk => HO.out.row_ge hk); clear gr2 at2)
        go_roundw
        case rel =>
          have e := HSN.out
          rw [hd, if_neg (by simp), ← HF.out] at e
          exact ⟨p + 1, by go_num, by omega, by rw [e]; exact own2, hb2⟩
        case measure => simp [intOf]; omega
    · have hge : n ≤ p := by omega
      go_wp2
      go_ret
      exact ⟨_, rfl, by have := HO.out; rw [HF.out, List.take_of_length_le (by rw [← HL.out]; exact hge)] at this; rw [HF.out, List.take_of_length_le (by rw [← HL.out]; exact hge)]; exact this, hbel⟩
end Go.Proofs.Ytmnjjmgdeiejkaa
