/- Contract: play's Txns. -/
import Derived.Test.YtojjeogpggielaaTxn16
set_option linter.unusedVariables false
set_option linter.unusedSimpArgs false
namespace Go.Proofs.Ytojjeogpggielaa
open Go.RowKit

/-- What an owned slice's elements lead to may be said to be more. -/
theorem Own.weakS {α : Type} {R : Rep α} {w : World} {base : Nat} {S S' : Nat → Prop} {e : TypeId} {v : Value} {l : List α} (h : Own R w base S e v l) (hS : ∀ b, S b → S' b) (hlt : ∀ b, S' b → b < w.heap.size) (hrow : ∀ g, rowOf v = some g → ¬ S' g) : Own R w base S' e v l := by
  refine ⟨hlt, ?_⟩
  rcases h.2 with hn | ⟨g, cap, cur, xss, rfl, hbg, hSg, hh, hle, hm, hsz, hr, htake⟩
  · exact .inl hn
  · cases cap with
    | zero =>
      obtain rfl : l = [] := List.eq_nil_of_length_eq_zero (by omega)
      exact .inl ⟨_, rfl, rfl⟩
    | succ c => exact .inr ⟨g, c + 1, cur, xss, rfl, hbg, hrow g rfl, hh, hle, hm, hsz, hr.weak hS, htake⟩

theorem IsSl.txn {w w' : World} {B n k : Nat} {A : Option Addr} {l : List Txn} (h : IsSl txnRep w (· < B) A n l) (hk : k < n) (hw : ∀ p : Addr, p.block < B → w'.cell? p = w.cell? p) :
    ∃ b off x A2 n2 c2 A3 n3 c3, A = some ⟨b, off, none⟩ ∧ b < B ∧ l[k]? = some x ∧ (I64 x.lsn ∧ I64 x.kind ∧ I64 x.mark) ∧ w'.cell? ⟨b, off + k * 5, none⟩ = some (.int .i64 x.lsn) ∧ w'.cell? ⟨b, off + k * 5 + 1, none⟩ = some (.int .i64 x.kind) ∧ w'.cell? ⟨b, off + k * 5 + 2, none⟩ = some (.slice A2 n2 c2) ∧ w'.cell? ⟨b, off + k * 5 + 3, none⟩ = some (.slice A3 n3 c3) ∧ w'.cell? ⟨b, off + k * 5 + 4, none⟩ = some (.int .i64 x.mark) ∧ IsSl chgRep w' (· < B) A2 n2 x.changes ∧ n2 ≤ c2 ∧ c2 ≤ maxLen ∧ IsSl strRep w' (· < B) A3 n3 x.signals ∧ n3 ≤ c3 ∧ c3 ≤ maxLen := by
  obtain ⟨b, off, x, cs, rfl, hb, hx, ⟨v2, v3, rfl, i0, i1, i2, ⟨A2, n2, c2, h2, s2, l2, m2⟩, ⟨A3, n3, c3, h3, s3, l3, m3⟩⟩, hc⟩ := h.at_ hk
  obtain rfl : v2 = .slice A2 n2 c2 := by simpa using h2
  obtain rfl : v3 = .slice A3 n3 c3 := by simpa using h3
  exact ⟨b, off, x, A2, n2, c2, A3, n3, c3, rfl, hb, hx, ⟨i0, i1, i2⟩, (hw _ hb).trans (hc 0 _ rfl), (hw _ hb).trans (hc 1 _ rfl), (hw _ hb).trans (hc 2 _ rfl), (hw _ hb).trans (hc 3 _ rfl), (hw _ hb).trans (hc 4 _ rfl), s2.keep hw, l2, m2, s3.keep hw, l3, m3⟩

/-- The transaction at place i that may be, of any one. -/
def playTxn (t : Nat) (i : Nat) (x : Txn) : Txn :=
  if modOf x.kind 9 = 8 then ⟨(i : Int) + 1, 2 + modOf (x.kind.tdiv 9) 2, [], [], 1 + modOf x.mark 20⟩
  else ⟨(i : Int) + 1, 1, playChgs t 5 x.changes, playSigs t 2 x.signals, 0⟩

def playFrom (t : Nat) : Nat → List Txn → List Txn
  | _, [] => []
  | i, x :: r => playTxn t i x :: playFrom t (i + 1) r

/-- Transactions that may be, numbered one by one. -/
def playTxns (t most : Nat) (l : List Txn) : List Txn := playFrom t 0 (l.take most)

theorem playFrom_snoc (t : Nat) : ∀ (l : List Txn) (i : Nat) (x : Txn), playFrom t i (l ++ [x]) = playFrom t i l ++ [playTxn t (i + l.length) x]
  | [], i, x => by simp [playFrom]
  | y :: r, i, x => by
    rw [List.cons_append, playFrom, playFrom, playFrom_snoc t r, List.cons_append, List.length_cons, show i + 1 + r.length = i + (r.length + 1) by omega]

theorem playFrom_len (t : Nat) : ∀ (l : List Txn) (i : Nat), (playFrom t i l).length = l.length
  | [], _ => rfl
  | x :: r, i => by rw [playFrom, List.length_cons, playFrom_len t r, List.length_cons]

theorem playChgs_len (t : Int) (m : Nat) (l : List Chg) : (playChgs t m l).length ≤ m := by unfold playChgs; rw [List.length_map, List.length_take]; omega
theorem playSigs_len (t m : Nat) (l : List ByteArray) : (playSigs t m l).length ≤ m := by unfold playSigs; rw [List.length_map, List.length_take]; omega

theorem info_txn : (Try.prog.info? 68).map (fun i => (i.zero, i.size, i.bytes)) = some (some (.agg #[.int .i64 0, .int .i64 0, .slice none 0 0, .slice none 0 0, .int .i64 0]), 5, 72) := by kernel_rfl

theorem Own.row_not {α : Type} {R : Rep α} {w : World} {base : Nat} {S : Nat → Prop} {e : TypeId} {v : Value} {l : List α} (h : Own R w base S e v l) {g : Nat} (hg : rowOf v = some g) : ¬ S g := by
  rcases h.2 with ⟨A, rfl, rfl⟩ | ⟨g', cap, cur, xss, rfl, hbg, hS, _⟩
  · cases A <;> simp [rowOf] at hg
  · cases cap with
    | zero => simp [rowOf] at hg
    | succ c =>
      simp [rowOf] at hg
      subst hg
      exact hS

theorem lies_mk {w : World} {S : Nat → Prop} {a b c : Int} {cs : List Chg} {ss : List ByteArray} {A : Option Addr} {n d : Nat} {A2 : Option Addr} {n2 d2 : Nat} (ha : I64 a) (hb : I64 b) (hc : I64 c) (h : IsSl chgRep w S A n cs) (h1 : n ≤ d) (h2 : d ≤ maxLen) (k : IsSl strRep w S A2 n2 ss) (k1 : n2 ≤ d2) (k2 : d2 ≤ maxLen) :
    txnRep.rel w S ⟨a, b, cs, ss, c⟩ [.int .i64 a, .int .i64 b, .slice A n d, .slice A2 n2 d2, .int .i64 c] :=
  ⟨_, _, rfl, ha, hb, hc, ⟨A, n, d, rfl, h, h1, h2⟩, ⟨A2, n2, d2, rfl, k, k1, k2⟩⟩

theorem IsSl.keepSet {α : Type} {R : Rep α} {w : World} {S : Nat → Prop} {A : Option Addr} {n : Nat} {l : List α} (h : IsSl R w S A n l) {d : Nat} (hd : ¬ S d) (j : Nat) (v : Value) : IsSl R (w.setCell ⟨d, j, none⟩ v) S A n l :=
  h.keep fun p hp => World.cell?_setCell_other _ _ _ _ (by intro e; rw [← e] at hp; exact hd hp)

theorem Own.keepSet {α : Type} {R : Rep α} {w : World} {base : Nat} {S : Nat → Prop} {e : TypeId} {v : Value} {l : List α} (h : Own R w base S e v l) {d : Nat} (hd : rowOf v ≠ some d) (hS : ¬ S d) (j : Nat) (u : Value) : Own R (w.setCell ⟨d, j, none⟩ u) base S e v l :=
  h.kept (grownBy_set w ⟨d, j, none⟩ u) (fun k hk => by injection hk with hk; subst hk; exact ⟨hd, hS⟩)

theorem flat_str' : Flat strRep := fun _ _ _ _ _ _ h => h

theorem IsSl.setAlloc {α : Type} {R : Rep α} {w : World} {T : Nat} {S S' : Nat → Prop} {A : Option Addr} {n : Nat} {l : List α} (h : IsSl R w S A n l) (e : ∀ b, S b → S' b ∧ b ≠ T ∧ b < w.heap.size) (j : Nat) (v : Value) (o : Obj) : IsSl R ((w.setCell ⟨T, j, none⟩ v).alloc o) S' A n l := by
  have h2 := h.keepSet (d := T) (fun hd => (e T hd).2.1 rfl) j v
  refine (h2.keep fun p hp => ?_).weak fun b hb => (e b hb).1
  have hb : Below w.heap.size (w.setCell ⟨T, j, none⟩ v) ((w.setCell ⟨T, j, none⟩ v).alloc o) := (Below.refl _ _).alloc (by simp) o
  exact hb.cell (e _ hp).2.2

theorem Src.newAt {α : Type} {R : Rep α} {w : World} {S : Nat → Prop} {e : TypeId} {a : α} {cs : List Value} {n : Nat} (hn : n = w.heap.size) (h : R.rel (w.alloc (.cells cs.toArray e)) S a cs) : Src R (w.alloc (.cells cs.toArray e)) S (some ⟨n, 0, none⟩) 1 [a] := by
  subst hn; exact Src.new h

theorem wrap_tdiv9 {x : Int} (h : I64 x) : wrap64 (x.tdiv 9) = x.tdiv 9 := by
  unfold I64 at h
  unfold wrap64
  rcases Int.le_total 0 x with h0 | h0
  · rw [Int.tdiv_eq_ediv_of_nonneg h0]; omega
  · have : x.tdiv 9 = -((-x) / 9) := by rw [← Int.tdiv_eq_ediv_of_nonneg (by omega), Int.neg_tdiv, Int.neg_neg]
    rw [this]; omega

/-- A list of transactions made by a call: it owns the row, and what the elements lead to is new too. -/
def OwnT (w : World) (base : Nat) (v : Value) (l : List Txn) : Prop := ∃ S : Nat → Prop, (∀ b, S b → base ≤ b) ∧ Own txnRep w base S 68 v l

set_option maxRecDepth 100000 in
set_option maxHeartbeats 8000000 in
theorem playTxns_any (A : Option Addr) (n c : Nat) (l : List Txn) (t : Nat) (ti : Int) (hti : ti = (t : Int)) (ht : 0 < t) (ht2 : t ≤ 8) (most : Nat) (mi : Int) (hmi : mi = (most : Int)) (hm2 : most ≤ 1000) (w : World) (h : IsSl txnRep w (· < w.heap.size) A n l) :
    Calls Try.prog 91 #[.slice A n c, .int .i64 ti, .int .i64 mi] w fun e w' => ∃ v, e = .returned v ∧ OwnT w' w.heap.size v (playTxns t most l) ∧ Below w.heap.size w w' := by
  subst hmi hti
  obtain ⟨i0, hi, hz0, hz1, hz2⟩ := info_parts info_txn
  have H := Lib.hid h
  have HL := Lib.hid h.len
  have ht3 : (0 : Int) < (t : Int) := by omega
  have ht4 : (t : Int) ≤ 9223372036854775807 := by omega
  clear h
  go_enter Try.func91, Try.ntmps91
  go_wp2_with fail
  go_loopw [7, 8] (fun v i wr => ∃ p : Nat, i = .int .i64 p ∧ p ≤ n ∧ p ≤ most ∧ OwnT wr w.heap.size v (playFrom t 0 (l.take p)) ∧ Below w.heap.size w wr) (fun _ i _ => most - (intOf i).toNat)
  case atStart => exact ⟨0, rfl, Nat.zero_le _, Nat.zero_le _, ⟨fun _ => False, fun _ h => h.elim, by simpa [playFrom] using Own.nil (R := txnRep) w w.heap.size (fun _ => False) (fun _ h => h.elim) _ none⟩, Below.refl _ _⟩
  case round =>
    obtain ⟨p, rfl, hpn, hpm, ⟨S, hSb, hown⟩, hbel⟩ := hrel
    have HO := Lib.hid hown
    have hsz := hbel.size
    obtain ⟨B, hB⟩ : ∃ B, B = playFrom t 0 (l.take p) := ⟨_, rfl⟩
    rw [← hB] at HO
    have hBl : B.length ≤ 1000 := by rw [hB, playFrom_len, List.length_take]; omega
    have HB := Lib.hid hB
    have HSB := Lib.hid hSb
    clear hown hB hSb
    by_cases hlt : p < n ∧ p < most
    · obtain ⟨h1, h2⟩ := hlt
      obtain ⟨b0, off, x, A2, n2, c2, A3, n3, c3, rfl, hbS, hx, hwf, k0, k1, k2, k3, k4, s2, l2, m2, s3, l3, m3⟩ := H.out.txn h1 (fun p hp => hbel.cell hp)
      have hd1 : decide (p < n) = true := decide_eq_true h1
      have hd2 : decide (p < most) = true := decide_eq_true h2
      have HSN := Lib.hid (show playFrom t 0 (l.take (p + 1)) = playFrom t 0 (l.take p) ++ [playTxn t p x] by rw [take_snoc hx, playFrom_snoc, List.length_take, show 0 + min p l.length = p by rw [← HL.out]; omega])
      have S2 := Lib.hid s2
      have S3 := Lib.hid s3
      clear hx s2 s3
      obtain ⟨xl, xk, xc, xs, xm⟩ := x
      dsimp only at k0 k1 k2 k3 k4 hwf S2 S3
      by_cases hk : modOf xk 9 = 8
      · have hk1 : (modOf xk 9 == 8) = true := by simpa using hk
        have HR := Lib.hid (show playTxn t p ⟨xl, xk, xc, xs, xm⟩ = ⟨(p : Int) + 1, 2 + modOf (xk.tdiv 9) 2, [], [], 1 + modOf xm 20⟩ from if_pos hk)
        have hr1 := modOf_range (xk.tdiv 9) 2 (by omega)
        have H9 := Lib.hid (show wrap64 (xk.tdiv 9) = xk.tdiv 9 from wrap_tdiv9 hwf.2.1)
        have hr2 := modOf_range xm 20 (by omega)
        have hbw : b0 < wr.heap.size := Nat.lt_of_lt_of_le hbS hsz
        have hbn : b0 ≠ wr.heap.size := by omega
        have HRW : Hid (∀ g, rowOf u7 = some g → g < wr.heap.size) := Lib.hid (fun g hg => HO.out.row_lt hg)
        have HRL := Lib.hid (show ∀ o, txnRep.rel ((wr.alloc (.cells #[.int .i64 ((p : Int) + 1), .int .i64 (2 + modOf (xk.tdiv 9) 2), .slice none 0 0, .slice none 0 0, .int .i64 (1 + modOf xm 20)] 68)).alloc o) S ⟨(p : Int) + 1, 2 + modOf (xk.tdiv 9) 2, [], [], 1 + modOf xm 20⟩ [.int .i64 ((p : Int) + 1), .int .i64 (2 + modOf (xk.tdiv 9) 2), .slice none 0 0, .slice none 0 0, .int .i64 (1 + modOf xm 20)] from fun o => lies_mk (by unfold I64; omega) (by unfold I64; omega) (by unfold I64; omega) IsSl.nil (Nat.le_refl _) (Nat.zero_le _) IsSl.nil (Nat.le_refl _) (Nat.zero_le _))
        have HOX := Lib.hid (HO.out.alloc (.cells #[.int .i64 ((p : Int) + 1), .int .i64 (2 + modOf (xk.tdiv 9) 2), .slice none 0 0, .slice none 0 0, .int .i64 (1 + modOf xm 20)] 68))
        have BX := Lib.hid (hbel.alloc hsz (.cells #[.int .i64 ((p : Int) + 1), .int .i64 (2 + modOf (xk.tdiv 9) 2), .slice none 0 0, .slice none 0 0, .int .i64 (1 + modOf xm 20)] 68))
        clear hk
        go_wp2_with (first
          | (go_at_call 15; (with_reducible refine (mod_any xk 9 _ (by omega) (by omega)).mono ?_); rintro e w' ⟨rfl, rfl⟩)
          | (go_at_call 15; rw [H9.out]; (with_reducible refine (mod_any (xk.tdiv 9) 2 _ (by omega) (by omega)).mono ?_); rintro e w' ⟨rfl, rfl⟩)
          | (go_at_call 19; (with_reducible refine (big_any xm 20 _ (by omega) (by omega)).mono ?_); rintro e w' ⟨rfl, rfl⟩)
          | (at_builtin; refine wpList_append_Own _ rfl _ _ 140 rfl w.heap.size 68 i0 _ 72 Try.underlying140 hi hz0 hz1 hz2 rfl (R := txnRep) (S := S) (l := B) (l' := [⟨(p : Int) + 1, 2 + modOf (xk.tdiv 9) 2, [], [], 1 + modOf xm 20⟩]) u7 rfl (HOX.out.alloc _) _ 1 1 rfl ?_ (by simp only [maxLen]; omega) (by omega) (by omega) (by simp; omega) ?_; exact Src.newAt (by simp) (cs := [.int .i64 ((p : Int) + 1), .int .i64 (2 + modOf (xk.tdiv 9) 2), .slice none 0 0, .slice none 0 0, .int .i64 (1 + modOf xm 20)]) (HRL.out _); intro v6 w6 own6 gr6 at6; have OW6 := Lib.hid own6; have BW6 := Lib.hid ((BX.out.alloc (by simp; omega) _).grown gr6 (by simp; omega) (fun g hg => HOX.out.row_ge hg)); clear own6 gr6 at6)
          | fail)
        go_roundw
        case rel => exact ⟨p + 1, by go_num, by omega, by omega, ⟨S, HSB.out, by rw [HSN.out, ← HB.out, HR.out]; exact OW6.out⟩, BW6.out⟩
        case measure => simp [intOf]; omega
      · have hk1 : (modOf xk 9 == 8) = false := by simpa using hk
        have HR := Lib.hid (show playTxn t p ⟨xl, xk, xc, xs, xm⟩ = ⟨(p : Int) + 1, 1, playChgs t 5 xc, playSigs t 2 xs, 0⟩ from if_neg hk)
        clear hk
        have hbw : b0 < wr.heap.size := Nat.lt_of_lt_of_le hbS hsz
        have T0 := Lib.hid (Blk.new (w := wr) (cs := #[.int .i64 ((p : Int) + 1), .int .i64 1, .slice none 0 0, .slice none 0 0, .int .i64 0]) (t := 68) rfl rfl)
        have HRW : Hid (∀ g, rowOf u7 = some g → g < wr.heap.size) := Lib.hid (fun g hg => HO.out.row_lt hg)
        have KK := Lib.hid (show wr.cell? ⟨b0, off + p * 5 + 3, none⟩ = some (.slice A3 n3 c3) from k3)
        go_wp2_with (first
          | (go_at_call 15; (with_reducible refine (mod_any xk 9 _ (by omega) (by omega)).mono ?_); rintro e w' ⟨rfl, rfl⟩)
          | (go_at_call 18; (with_reducible refine (playChanges_any A2 n2 c2 xc (t : Int) ht3 ht4 5 5 rfl (by omega) _ ((S2.out.below ((Below.refl _ _).alloc hsz (.cells #[.int .i64 ((p : Int) + 1), .int .i64 1, .slice none 0 0, .slice none 0 0, .int .i64 0] 68))).more (by simp; omega))).mono ?_); rintro e w3 ⟨v3, rfl, own3, bel3⟩; obtain ⟨A4, c4, rfl, l4, m4, s4⟩ := own3.isSlR; obtain ⟨q4, hq4⟩ : ∃ q, q = (playChgs (t : Int) 5 xc).length := ⟨_, rfl⟩; rw [← hq4] at l4 s4 ⊢; have T3 := Lib.hid (T0.out.after bel3); obtain ⟨t0, t1, t2, t3, t4, tz⟩ := T3.out.c5; have S4 := Lib.hid s4; have bel3' : Below wr.heap.size wr w3 := ((Below.refl _ _).alloc (Nat.le_refl _) (.cells #[.int .i64 ((p : Int) + 1), .int .i64 1, .slice none 0 0, .slice none 0 0, .int .i64 0] 68)).trans (bel3.mono (by simp)); have B3 := Lib.hid bel3'; have hs3 : wr.heap.size + 1 ≤ w3.heap.size := (by have := bel3.size; simpa using this); have k3 := (bel3'.cell (p := ⟨b0, off + p * 5 + 3, none⟩) hbw).trans k3; have HO3 := Lib.hid ((HO.out.alloc (.cells #[.int .i64 ((p : Int) + 1), .int .i64 1, .slice none 0 0, .slice none 0 0, .int .i64 0] 68)).below bel3); clear own3 bel3 s4 bel3' hq4)
          | (go_at_call 119; (with_reducible refine (playSignals_any A3 n3 c3 xs t _ rfl ht ht2 2 2 rfl (by omega) _ ((S3.out.below ((B3.out.mono hsz).setCell (p := ⟨wr.heap.size, 2, none⟩) hsz _)).more (by simp; omega))).mono ?_); rintro e w4 ⟨v4, rfl, own4, bel4⟩; obtain ⟨A5, c5, rfl, l5, m5, s5⟩ := own4.isSlR; obtain ⟨q5, hq5⟩ : ∃ q, q = (playSigs t 2 xs).length := ⟨_, rfl⟩; rw [← hq5] at l5 s5 ⊢; have T4 := Lib.hid ((T3.out.put (j := 2) (by simp) (cs' := [.int .i64 ((p : Int) + 1), .int .i64 1, .slice A4 q4 c4, .slice none 0 0, .int .i64 0]) _ rfl).after bel4); obtain ⟨t0, t1, t2, t3, t4, tz⟩ := T4.out.c5; have S5 := Lib.hid s5; have S6 := Lib.hid ((S4.out.keepSet (d := wr.heap.size) (by simp; omega) 2 (.slice A4 q4 c4)).keep (fun p hp => bel4.cell (by simpa using hp.2))); have hs4 : w3.heap.size ≤ w4.heap.size := (by have := bel4.size; simpa using this); have B4 := Lib.hid (((B3.out.setCell (p := ⟨wr.heap.size, 2, none⟩) (Nat.le_refl _) _).trans (bel4.mono (by simp; omega)))); have HO4 := Lib.hid ((HO3.out.keepSet (d := wr.heap.size) (fun e => Nat.lt_irrefl _ (HRW.out _ e)) (fun hS => Nat.lt_irrefl _ (HO.out.1 _ hS)) 2 (.slice A4 q4 c4)).below bel4); have HE1 := Lib.hid (show ∀ b, (wr.heap.size + 1 ≤ b ∧ b < w3.heap.size) → (S b ∨ (wr.heap.size < b ∧ b < w4.heap.size)) ∧ b ≠ wr.heap.size ∧ b < w4.heap.size from fun b hb => ⟨.inr ⟨by omega, by omega⟩, by omega, by omega⟩); have HE2 := Lib.hid (show ∀ b, (w3.heap.size ≤ b ∧ b < w4.heap.size) → (S b ∨ (wr.heap.size < b ∧ b < w4.heap.size)) ∧ b ≠ wr.heap.size ∧ b < w4.heap.size from fun b hb => ⟨.inr ⟨by omega, by omega⟩, by omega, by omega⟩); have HI1 : I64 ((p : Int) + 1) := (by unfold I64; omega); have HI2 : I64 1 := (by unfold I64; omega); have HI3 : I64 0 := (by unfold I64; omega); have HRL := Lib.hid (show ∀ o, txnRep.rel ((w4.setCell ⟨wr.heap.size, 3, none⟩ (.slice A5 q5 c5)).alloc o) (fun b => S b ∨ (wr.heap.size < b ∧ b < w4.heap.size)) ⟨(p : Int) + 1, 1, playChgs t 5 xc, playSigs t 2 xs, 0⟩ [.int .i64 ((p : Int) + 1), .int .i64 1, .slice A4 q4 c4, .slice A5 q5 c5, .int .i64 0] from fun o => lies_mk HI1 HI2 HI3 (S6.out.setAlloc (fun b hb => HE1.out b (by simpa using hb)) 3 _ o) l4 m4 (S5.out.setAlloc (fun b hb => HE2.out b (by simpa using hb)) 3 _ o) l5 m5); have HOX := Lib.hid ((HO4.out.keepSet (d := wr.heap.size) (fun e => Nat.lt_irrefl _ (HRW.out _ e)) (fun hS => Nat.lt_irrefl _ (HO.out.1 _ hS)) 3 (.slice A5 q5 c5)).weakS (S' := fun b => S b ∨ (wr.heap.size < b ∧ b < w4.heap.size)) (fun b hb => .inl hb) (fun b hb => by rcases hb with hb | hb; exact Nat.lt_of_lt_of_le (HO4.out.1 _ hb) (by simp); exact Nat.lt_of_lt_of_le hb.2 (by simp)) (fun g hg hS => by rcases hS with hS | hS; exact HO4.out.row_not hg hS; have := HRW.out g hg; omega)); have BX := Lib.hid (((hbel.trans (B4.out.mono hsz)).setCell (p := ⟨wr.heap.size, 3, none⟩) hsz (.slice A5 q5 c5))); clear own4 bel4 s5 hq5 HI1 HI2 HI3)
          | (at_builtin; refine wpList_append_Own _ rfl _ _ 140 rfl w.heap.size 68 i0 _ 72 Try.underlying140 hi hz0 hz1 hz2 rfl (R := txnRep) (S := fun b => S b ∨ (wr.heap.size < b ∧ b < w4.heap.size)) (l := B) (l' := [⟨(p : Int) + 1, 1, playChgs t 5 xc, playSigs t 2 xs, 0⟩]) u7 rfl (HOX.out.alloc _) _ 1 1 rfl ?_ (by simp only [maxLen]; omega) (by omega) (by omega) (by simp; omega) ?_; exact Src.newAt (cs := [.int .i64 ((p : Int) + 1), .int .i64 1, .slice A4 q4 c4, .slice A5 q5 c5, .int .i64 0]) (by simp) (HRL.out _); intro v6 w6 own6 gr6 at6; have OW6 := Lib.hid own6; have BW6 := Lib.hid ((BX.out.alloc (by simp; omega) _).grown gr6 (by simp; omega) (fun g hg => HOX.out.row_ge hg)); clear own6 gr6 at6)
          | fail)
        go_roundw
        case rel => exact ⟨p + 1, by go_num, by omega, by omega, ⟨fun b => S b ∨ (wr.heap.size < b ∧ b < w4.heap.size), fun b hb => hb.elim (HSB.out b) (fun hb => by omega), by rw [HSN.out, ← HB.out, HR.out]; exact OW6.out⟩, BW6.out⟩
        case measure => simp [intOf]; omega
    · have hend : n ≤ p ∨ (p < n ∧ p = most) := by omega
      have HE := Lib.hid (show B = playTxns t most l by
        rw [HB.out]; unfold playTxns
        rcases hend with h | ⟨_, h⟩
        · rw [List.take_of_length_le (by rw [← HL.out]; exact h), List.take_of_length_le (by rw [← HL.out]; omega)]
        · rw [h])
      clear hlt
      rcases hend with h | ⟨h0, rfl⟩
      · have hd1 : decide (p < n) = false := decide_eq_false (by omega)
        go_wp2
        go_ret
        exact ⟨_, rfl, ⟨S, HSB.out, by rw [← HE.out]; exact HO.out⟩, hbel⟩
      · have hd1 : decide (p < n) = true := decide_eq_true h0
        have hd2 : decide (p < p) = false := decide_eq_false (by omega)
        go_wp2
        go_ret
        exact ⟨_, rfl, ⟨S, HSB.out, by rw [← HE.out]; exact HO.out⟩, hbel⟩
end Go.Proofs.Ytojjeogpggielaa
