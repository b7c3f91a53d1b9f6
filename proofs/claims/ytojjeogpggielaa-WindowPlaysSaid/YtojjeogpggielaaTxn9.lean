/- Contract: txn.Decode. -/
import Derived.Test.YtojjeogpggielaaTxn8
import Derived.Deep.RegionLaw
set_option linter.unusedVariables false
namespace Go.Proofs.Ytojjeogpggielaa
open Go.RowKit

/-- What a decoding answers: a transaction that lies somewhere, and the error. -/
def TxnRes (t : Txn) (er : Int) (w : World) (e : Ending) (w' : World) : Prop :=
  ∃ A n c A2 n2 c2, e = .returned (.tuple #[.agg #[.int .i64 t.lsn, .int .i64 t.kind, .slice A n c, .slice A2 n2 c2, .int .i64 t.mark], .int .i64 er]) ∧ IsSl chgRep w' (· < w'.heap.size) A n t.changes ∧ n ≤ c ∧ c ≤ maxLen ∧ IsSl strRep w' (· < w'.heap.size) A2 n2 t.signals ∧ n2 ≤ c2 ∧ c2 ≤ maxLen ∧ Below w.heap.size w w'

/-- A transaction's cells in a block. -/
def TxnAt (w : World) (T : Nat) (a b : Int) (v2 v3 : Value) (c : Int) : Prop :=
  w.cell? ⟨T, 0, none⟩ = some (.int .i64 a) ∧ w.cell? ⟨T, 1, none⟩ = some (.int .i64 b) ∧ w.cell? ⟨T, 2, none⟩ = some v2 ∧ w.cell? ⟨T, 3, none⟩ = some v3 ∧ w.cell? ⟨T, 4, none⟩ = some (.int .i64 c) ∧ (∀ j, w.frozen? ⟨T, j, none⟩ = false) ∧ w.frozen? ⟨T, 3, none⟩ = false

theorem TxnAt.lt {w : World} {T : Nat} {a b c : Int} {v2 v3 : Value} (h : TxnAt w T a b v2 v3 c) : T < w.heap.size := World.block_lt_of_cell? w _ h.1

theorem TxnAt.grown {w w' : World} {T : Nat} {a b c : Int} {v2 v3 : Value} {row : Option Nat} (h : TxnAt w T a b v2 v3 c) (gr : w.grownBy w' row) (hr : row ≠ some T) : TxnAt w' T a b v2 v3 c := by
  have hb : w'.heap[T]? = w.heap[T]? := gr.block T h.lt (fun e => hr e.symm)
  obtain ⟨h0, h1, h2, h3, h4, z2, z3⟩ := h
  exact ⟨(World.cell?_of_block (a := ⟨T, 0, none⟩) hb).trans h0, (World.cell?_of_block (a := ⟨T, 1, none⟩) hb).trans h1, (World.cell?_of_block (a := ⟨T, 2, none⟩) hb).trans h2, (World.cell?_of_block (a := ⟨T, 3, none⟩) hb).trans h3, (World.cell?_of_block (a := ⟨T, 4, none⟩) hb).trans h4, fun j => (World.frozen?_of_block (a := ⟨T, j, none⟩) hb).trans (z2 j), (World.frozen?_of_block (a := ⟨T, 3, none⟩) hb).trans z3⟩

theorem TxnAt.alloc {w : World} {T : Nat} {a b c : Int} {v2 v3 : Value} (h : TxnAt w T a b v2 v3 c) (o : Obj) : TxnAt (w.alloc o) T a b v2 v3 c := h.grown (World.grownBy_alloc w o none) (fun h => by cases h)

theorem TxnAt.below {w w' : World} {T : Nat} {a b c : Int} {v2 v3 : Value} (h : TxnAt w T a b v2 v3 c) (hb : Below w.heap.size w w') : TxnAt w' T a b v2 v3 c :=
  h.grown (row := none) ⟨hb.os, hb.tape, hb.output, hb.size, fun k hk _ => hb.block k hk⟩ (fun h => by cases h)

theorem TxnAt.drew {w : World} {T : Nat} {a b c : Int} {v2 v3 : Value} (h : TxnAt w T a b v2 v3 c) : TxnAt w.drew T a b v2 v3 c := h

theorem TxnAt.new {w : World} (a b : Int) (v2 v3 : Value) (c : Int) (t : TypeId) : TxnAt (w.alloc (.cells #[.int .i64 a, .int .i64 b, v2, v3, .int .i64 c] t)) w.heap.size a b v2 v3 c :=
  ⟨World.cell?_alloc_at _ _ _ _ rfl, World.cell?_alloc_at _ _ _ _ rfl, World.cell?_alloc_at _ _ _ _ rfl, World.cell?_alloc_at _ _ _ _ rfl, World.cell?_alloc_at _ _ _ _ rfl, fun j => by rw [frozen?_alloc_cells]; simp [World.frozen?], by rw [frozen?_alloc_cells]; simp [World.frozen?]⟩

theorem TxnAt.set2 {w : World} {T : Nat} {a b c : Int} {v2 v3 : Value} (h : TxnAt w T a b v2 v3 c) (v : Value) : TxnAt (w.setCell ⟨T, 2, none⟩ v) T a b v v3 c := by
  obtain ⟨h0, h1, h2, h3, h4, z2, z3⟩ := h
  refine ⟨?_, ?_, World.cell?_setCell_same _ _ _ h2, ?_, ?_, fun j => by simpa using z2 j, by simpa using z3⟩
  · rw [World.cell?_setCell_other _ _ _ _ (by intro h; injection h with _ h2; cases h2)]; exact h0
  · rw [World.cell?_setCell_other _ _ _ _ (by intro h; injection h with _ h2; cases h2)]; exact h1
  · rw [World.cell?_setCell_other _ _ _ _ (by intro h; injection h with _ h2; cases h2)]; exact h3
  · rw [World.cell?_setCell_other _ _ _ _ (by intro h; injection h with _ h2; cases h2)]; exact h4

theorem TxnAt.set3 {w : World} {T : Nat} {a b c : Int} {v2 v3 : Value} (h : TxnAt w T a b v2 v3 c) (v : Value) : TxnAt (w.setCell ⟨T, 3, none⟩ v) T a b v2 v c := by
  obtain ⟨h0, h1, h2, h3, h4, z2, z3⟩ := h
  refine ⟨?_, ?_, ?_, World.cell?_setCell_same _ _ _ h3, ?_, fun j => by simpa using z2 j, by simpa using z3⟩
  · rw [World.cell?_setCell_other _ _ _ _ (by intro h; injection h with _ h2; cases h2)]; exact h0
  · rw [World.cell?_setCell_other _ _ _ _ (by intro h; injection h with _ h2; cases h2)]; exact h1
  · rw [World.cell?_setCell_other _ _ _ _ (by intro h; injection h with _ h2; cases h2)]; exact h2
  · rw [World.cell?_setCell_other _ _ _ _ (by intro h; injection h with _ h2; cases h2)]; exact h4

theorem PRd.drew {w : World} {B g : Nat} {l : List Fld} {bad : Bool} (h : PRd w B g l bad) : PRd w.drew B g l bad := h

theorem TxnAt.belowB {w w' : World} {B T : Nat} {a b c : Int} {v2 v3 : Value} (h : TxnAt w T a b v2 v3 c) (hb : Below B w w') (hT : T < B) : TxnAt w' T a b v2 v3 c := by
  obtain ⟨h0, h1, h2, h3, h4, z2, z3⟩ := h
  exact ⟨(hb.cell (p := ⟨T, 0, none⟩) hT).trans h0, (hb.cell (p := ⟨T, 1, none⟩) hT).trans h1, (hb.cell (p := ⟨T, 2, none⟩) hT).trans h2, (hb.cell (p := ⟨T, 3, none⟩) hT).trans h3, (hb.cell (p := ⟨T, 4, none⟩) hT).trans h4, fun j => (hb.frozen (p := ⟨T, j, none⟩) hT).trans (z2 j), (hb.frozen (p := ⟨T, 3, none⟩) hT).trans z3⟩

theorem Own.isSlR {α : Type} {R : Rep α} {w : World} {base : Nat} {e : TypeId} {v : Value} {l : List α} (h : Own R w base (fun _ => False) e v l) : ∃ A cap, v = .slice A l.length cap ∧ l.length ≤ cap ∧ cap ≤ maxLen ∧ IsSl R w (fun b => base ≤ b ∧ b < w.heap.size) A l.length l :=
  h.isSl (fun _ h => h.elim) (fun _ h1 h2 => ⟨h1, h2⟩)

theorem info_chg : (Try.prog.info? 53).map (fun i => (i.zero, i.size, i.bytes)) = some (some (.agg #[.int .i64 0, .int .i64 0, .bool false, .string ByteArray.empty]), 4, 40) := by kernel_rfl
theorem info_str : (Try.prog.info? 9).map (fun i => (i.zero, i.size, i.bytes)) = some (some (.string ByteArray.empty), 1, 16) := by kernel_rfl

theorem IsSl.wfL {w : World} {S : Nat → Prop} {A : Option Addr} {n : Nat} {l : List Fld} (h : IsSl fldRep w S A n l) : wfL l := by
  intro f hf
  obtain ⟨k, hk, rfl⟩ := List.mem_iff_getElem.1 hf
  obtain ⟨_, _, x, _, _, _, hx, ⟨_, hw⟩, _⟩ := h.at_ (k := k) (by rw [h.len]; exact hk)
  rw [List.getElem?_eq_getElem hk] at hx
  rw [Option.some.inj hx]
  exact hw

theorem dec_ok {b : List UInt8} {t : Txn} (he : decE b = 0) (h : rdTxn (decV b) = (t, [], false)) (hm : mayTxn t = true) : decTV b = t ∧ decTE b = 0 := by
  unfold decTV decTE
  rw [h]
  dsimp only
  rw [if_pos ⟨he, rfl, rfl, hm⟩, if_pos he, if_pos ⟨rfl, rfl, hm⟩]
  exact ⟨rfl, rfl⟩

theorem dec_no {b : List UInt8} {t : Txn} {l : List Fld} {bad : Bool} (he : decE b = 0) (h : rdTxn (decV b) = (t, l, bad)) (hm : ¬ (bad = false ∧ l = [] ∧ mayTxn t = true)) : decTV b = txn0 ∧ decTE b = 3 := by
  unfold decTV decTE
  rw [h]
  dsimp only
  rw [if_neg (fun h => hm h.2), if_pos he, if_neg hm]
  exact ⟨rfl, rfl⟩

theorem dec_err {b : List UInt8} (he : ¬ decE b = 0) : decTV b = txn0 ∧ decTE b = decE b := by
  unfold decTV decTE
  rw [if_neg (fun h => he h.1), if_neg he]
  exact ⟨rfl, rfl⟩

theorem setcells_below {B R : Nat} {w w' : World} (h : Below B w w') (hR : B ≤ R) (a b c d e : Value) : Below B w (((((w'.setCell ⟨R, 0, none⟩ a).setCell ⟨R, 1, none⟩ b).setCell ⟨R, 2, none⟩ c).setCell ⟨R, 3, none⟩ d).setCell ⟨R, 4, none⟩ e) :=
  ((((h.setCell hR _).setCell hR _).setCell hR _).setCell hR _).setCell hR _

theorem setcells_keep {α : Type} {Rp : Rep α} {S : Nat → Prop} {w : World} {R n : Nat} {A : Option Addr} {l : List α} (h : IsSl Rp w S A n l) (hS : ¬ S R) (a b c d e : Value) : IsSl Rp (((((w.setCell ⟨R, 0, none⟩ a).setCell ⟨R, 1, none⟩ b).setCell ⟨R, 2, none⟩ c).setCell ⟨R, 3, none⟩ d).setCell ⟨R, 4, none⟩ e) S A n l :=
  h.keep fun p hp => by
    have hne : ∀ j, (⟨R, j, none⟩ : Addr) ≠ p := fun j e => hS (by rw [← e] at hp; exact hp)
    rw [World.cell?_setCell_other _ _ _ _ (hne 4), World.cell?_setCell_other _ _ _ _ (hne 3), World.cell?_setCell_other _ _ _ _ (hne 2), World.cell?_setCell_other _ _ _ _ (hne 1), World.cell?_setCell_other _ _ _ _ (hne 0)]

set_option maxRecDepth 100000 in
set_option maxHeartbeats 8000000 in
theorem txnDecode_any (A : Option Addr) (n c : Nat) (b : List UInt8) (w : World) (h : IsSl byteRep w (· < w.heap.size) A n b) (h1 : n ≤ c) (h2 : c ≤ maxLen) :
    Calls Try.prog 53 #[.slice A n c] w fun e w' => TxnRes (decTV b) (decTE b) w e w' := by
  obtain ⟨i0, hi, hz0, hz1, hz2⟩ := info_parts info_chg
  obtain ⟨j0, ji, jz0, jz1, jz2⟩ := info_parts info_str
  have H := Lib.hid h
  have bw0 : ∀ o, Below w.heap.size w (w.alloc o) := fun o => (Below.refl _ _).alloc (Nat.le_refl _) o
  clear h
  by_cases he : decE b = 0
  · obtain ⟨L, hL⟩ : ∃ L, L = decV b := ⟨_, rfl⟩
    obtain ⟨⟨x1, l1, b1⟩, hr1⟩ : ∃ a, a = intP L false := ⟨_, rfl⟩
    obtain ⟨⟨x2, l2, b2⟩, hr2⟩ : ∃ a, a = smallP l1 b1 3 := ⟨_, rfl⟩
    obtain ⟨⟨x3, l3, b3⟩, hr3⟩ : ∃ a, a = intP l2 b2 := ⟨_, rfl⟩
    obtain ⟨⟨x4, l4, b4⟩, hr4⟩ : ∃ a, a = smallP l3 b3 16 := ⟨_, rfl⟩
    obtain ⟨⟨cs, l5, b5⟩, hr5⟩ : ∃ a, a = rdChgs x4.toNat l4 b4 [] := ⟨_, rfl⟩
    obtain ⟨⟨x6, l6, b6⟩, hr6⟩ : ∃ a, a = smallP l5 b5 2 := ⟨_, rfl⟩
    obtain ⟨⟨ts, l7, b7⟩, hr7⟩ : ∃ a, a = rdTxts x6.toNat l6 b6 [] := ⟨_, rfl⟩
    have hrd : rdTxn L = (⟨x1, x2, cs, ts, x3⟩, l7, b7) := by
      unfold rdTxn
      rw [← hr1]; dsimp only; rw [← hr2]; dsimp only; rw [← hr3]; dsimp only; rw [← hr4]; dsimp only; rw [← hr5]; dsimp only; rw [← hr6]; dsimp only; rw [← hr7]
    have HE := Lib.hid he
    have HRD := Lib.hid hrd
    have HR1 := Lib.hid hr1
    have HR2 := Lib.hid hr2
    have HR3 := Lib.hid hr3
    have HR4 := Lib.hid hr4
    have HR5 := Lib.hid hr5
    have HR6 := Lib.hid hr6
    have HR7 := Lib.hid hr7
    have HLL := Lib.hid hL
    clear he hrd hr1 hr2 hr3 hr4 hr5 hr6 hr7 hL
    go_enter Try.func53, Try.ntmps53
    go_wp2_with (first
      | (go_at_call 92; (with_reducible refine (decode_any A n c b _ ((H.out.below (bw0 _)).more (by simp)) h1 h2).mono ?_); rintro ev w2 ⟨v2, rfl, own2, bel2⟩; rw [HE.out]; rw [← HLL.out] at own2; obtain ⟨A2, c2, rfl, hlc2, hcm2, sl2⟩ := own2.isSlB; have SL2 := Lib.hid sl2; have AT0 := Lib.hid ((TxnAt.new (w := w) 0 0 (.slice none 0 0) (.slice none 0 0) 0 68).below bel2); have hs2 := bel2.size; simp at hs2; have BEL2 := Lib.hid ((bw0 _).trans (bel2.mono (by simp))); clear own2 sl2 bel2)
      | (go_at_call 93; (with_reducible refine (pread_any A2 L.length c2 L _ SL2.out hlc2 hcm2).mono ?_); rintro ev w3 ⟨rfl, rd3, bel3⟩; have RD3 := Lib.hid rd3; have hg3 := rd3.lt; have BEL3 := Lib.hid bel3; clear rd3 bel3)
      | (go_at_call 94; (with_reducible refine (pint_any _ w2.heap.size L false _ RD3.out (Nat.le_refl _)).mono ?_); rintro ev w4 ⟨rfl, rd4, gr4⟩; rw [← HR1.out] at rd4 ⊢; have RD4 := Lib.hid rd4; have GR4 := Lib.hid gr4; clear rd4 gr4)
      | (go_at_call 95; (with_reducible refine (psmall_any _ w2.heap.size l1 b1 3 _ RD4.out (Nat.le_refl _)).mono ?_); rintro ev w5 ⟨rfl, rd5, gr5⟩; rw [← HR2.out] at rd5 ⊢; have RD5 := Lib.hid rd5; have GR5 := Lib.hid (grownBy_trans GR4.out gr5); clear rd5 gr5)
      | (go_at_call 94; (with_reducible refine (pint_any _ w2.heap.size l2 b2 _ RD5.out (Nat.le_refl _)).mono ?_); rintro ev w6 ⟨rfl, rd6, gr6⟩; rw [← HR3.out] at rd6 ⊢; have RD6 := Lib.hid (rd6.alloc (Nat.le_refl _) (.cells #[.int .i64 x1, .int .i64 x2, .slice none 0 0, .slice none 0 0, .int .i64 x3] 68)); have GR6 := Lib.hid (grownBy_trans GR5.out gr6); have hs6 := Nat.lt_of_lt_of_le hg3 GR6.out.size; clear rd6 gr6)
      | (go_at_call 95; (with_reducible refine (psmall_any _ w2.heap.size l3 b3 16 _ RD6.out (Nat.le_refl _)).mono ?_); rintro ev w7 ⟨rfl, rd7, gr7⟩; rw [← HR4.out] at rd7 ⊢; have RD7 := Lib.hid rd7; have AT7 := Lib.hid ((TxnAt.new (w := w6) x1 x2 (.slice none 0 0) (.slice none 0 0) x3 68).grown gr7 (by intro e; injection e with e; omega)); have hs7 := gr7.size; simp at hs7; have BEL7 := Lib.hid (BEL3.out.grown (grownBy_trans (grown_alloc GR6.out _) gr7) (by omega) (by intro k hk; injection hk with hk; omega)); clear rd7 gr7)
      | fail)
    obtain ⟨g, hg⟩ : ∃ g, g = w2.heap.size := ⟨_, rfl⟩
    obtain ⟨T, hT⟩ : ∃ T, T = w6.heap.size := ⟨_, rfl⟩
    rw [← hT] at AT7 hs6 hs7 ⊢
    have hTg : g < T := by omega
    have HG := Lib.hid hg
    rw [← hg] at RD7 ⊢
    have hg0 : w.heap.size < g := by omega
    have BEL7g : Below g w2 w7 := by rw [hg]; exact BEL7.out
    have B7 := Lib.hid BEL7g
    have HWL := Lib.hid SL2.out.wfL
    clear hg hT RD3 RD4 RD5 RD6 GR4 GR5 GR6 hs6 BEL3 BEL7 BEL7g hg3 SL2
    have hq1 := intP_wf HWL.out false
    rw [← HR1.out] at hq1
    have hq2 := smallP_wf hq1.2 b1 3 (by omega)
    rw [← HR2.out] at hq2
    have hq3 := intP_wf hq2.2.2 b2
    rw [← HR3.out] at hq3
    have hq4 := smallP_wf hq3.2 b3 16 (by omega)
    rw [← HR4.out] at hq4
    have HW4 := Lib.hid hq4.2.2
    have HWI := Lib.hid (show I64 x1 ∧ I64 x2 ∧ I64 x3 from ⟨hq1.1, by obtain ⟨e1, e2, _⟩ := hq2; unfold I64; dsimp only at e1 e2; omega, hq3.1⟩)
    have hx4 : 0 ≤ x4 ∧ x4 ≤ 16 := ⟨hq4.1, hq4.2.1⟩
    clear hq1 hq2 hq3 hq4
    obtain ⟨k4, rfl⟩ := Int.eq_ofNat_of_zero_le hx4.1
    have hk4 : k4 ≤ 16 := by omega
    clear hx4
    go_loopw [8] (fun i wr => ∃ (k : Nat) (l : List Fld) (bad : Bool) (acc : List Chg) (v2 : Value), i = .int .i64 k ∧ acc.length + k ≤ 16 ∧ rdChgs k l bad acc = (cs, l5, b5) ∧ wfL l ∧ PRd wr g g l bad ∧ Own chgRep wr (T + 1) (fun _ => False) 53 v2 acc ∧ TxnAt wr T x1 x2 v2 (.slice none 0 0) x3 ∧ Below g w2 wr) (fun i _ => (intOf i).toNat)
    case atStart => exact ⟨k4, l4, b4, [], _, rfl, by simpa using hk4, by have := HR5.out; rw [Int.toNat_natCast] at this; exact this.symm, HW4.out, RD7.out, Own.nil _ _ _ (fun _ h => h.elim) _ _, AT7.out, B7.out⟩
    case round =>
      obtain ⟨k, l, bad, acc, v2, rfl, hlen, hrest, hwf, hrd, hown, hat, hbel⟩ := hrel
      have hTs := hat.lt
      have RD := Lib.hid hrd
      have OW := Lib.hid hown
      have AT := Lib.hid hat
      have BE := Lib.hid hbel
      have HRE := Lib.hid hrest
      have HWF := Lib.hid hwf
      have HRT : Hid (∀ q, rowOf v2 = some q → T < q) := Lib.hid (fun q hq => Nat.lt_of_succ_le (OW.out.row_ge hq))
      clear hrd hown hbel hrest hwf
      by_cases hk : k = 0
      · subst hk
        have hf := HRE.out
        rw [rdChgs] at hf
        injection hf with e1 e2
        injection e2 with e2 e3
        subst e1 e2 e3
        obtain ⟨Y, hY⟩ : ∃ Y, Y = wr.heap.size := ⟨_, rfl⟩
        have HRY := Lib.hid (show ∀ q, rowOf v2 = some q → q < Y by rw [hY]; exact fun q hq => OW.out.row_lt hq)
        have hTY : T < Y := by rw [hY]; exact hTs
        have HY0 := Lib.hid hY
        have hl16 : acc.length ≤ 16 := by omega
        have hx6 := smallP_wf HWF.out bad 2 (by omega)
        rw [← HR6.out] at hx6
        have HW6 := Lib.hid hx6.2.2
        obtain ⟨k6, hk6⟩ := Int.eq_ofNat_of_zero_le hx6.1
        have hk62 : k6 ≤ 2 := by have := hx6.2.1; (try dsimp only at *); omega
        dsimp only at hk6
        subst hk6
        clear hY hx6 hat hlen HRE HR5
        go_wp2_with (first
          | (go_at_call 95; (with_reducible refine (psmall_any _ g l bad 2 _ RD.out (Nat.le_refl _)).mono ?_); rintro ev w10 ⟨rfl, rd10, gr10⟩; rw [← HR6.out] at rd10 ⊢; have RD10 := Lib.hid rd10; have AT10 := Lib.hid (AT.out.grown gr10 (by intro e; injection e with e; omega)); have OW10 := Lib.hid (OW.out.kept gr10 (fun k hk => ⟨fun e => (by have h1 := HRT.out k e; injection hk with hk; omega), id⟩)); have BE10 := Lib.hid (BE.out.grown gr10 (by omega) (fun k hk => by injection hk with hk; omega)); have hY10 : Y ≤ w10.heap.size := (by have := gr10.size; have := HY0.out; omega); clear rd10 gr10)
          | fail)
        go_loopw [9] (fun i wr => ∃ (k : Nat) (l : List Fld) (bad : Bool) (acc2 : List ByteArray) (v3 : Value), i = .int .i64 k ∧ acc2.length + k ≤ 2 ∧ rdTxts k l bad acc2 = (ts, l7, b7) ∧ wfL l ∧ PRd wr g g l bad ∧ Own chgRep wr (T + 1) (fun _ => False) 53 v2 acc ∧ Own strRep wr Y (fun _ => False) 9 v3 acc2 ∧ TxnAt wr T x1 x2 v2 v3 x3 ∧ Below g w2 wr ∧ Y ≤ wr.heap.size) (fun i _ => (intOf i).toNat)
        case atStart => exact ⟨k6, l6, b6, [], _, rfl, by simpa using hk62, by have := HR7.out; rw [Int.toNat_natCast] at this; exact this.symm, HW6.out, RD10.out, OW10.out, Own.nil _ _ _ (fun _ h => h.elim) _ _, AT10.out, BE10.out, hY10⟩
        case round =>
          obtain ⟨k, l, bad, acc2, v3, rfl, hlen2, hrest, hwf, hrd, hown, hown3, hat, hbel, hYs⟩ := hrel
          have hTs := hat.lt
          have RD := Lib.hid hrd
          have OW := Lib.hid hown
          have OV := Lib.hid hown3
          have AT := Lib.hid hat
          have BE := Lib.hid hbel
          have HRE := Lib.hid hrest
          have HWF := Lib.hid hwf
          have HRV : Hid (∀ q, rowOf v3 = some q → Y ≤ q) := Lib.hid (fun q hq => OV.out.row_ge hq)
          clear hrd hown hown3 hbel hrest hwf RD10 OW10 AT10 BE10 hY10
          by_cases hk : k = 0
          · subst hk
            have hf := HRE.out
            rw [rdTxts] at hf
            injection hf with e1 e2
            injection e2 with e2 e3
            subst e1 e2 e3
            have R0 := Lib.hid (AT0.out.belowB BE.out hg0)
            clear hlen2 HRE HR7 hat
            have BEw := Lib.hid (BEL2.out.trans (BE.out.mono (Nat.le_of_lt hg0)))
            have HRD2 := Lib.hid (show rdTxn (decV b) = (⟨x1, x2, acc, acc2, x3⟩, l, bad) by rw [← HLL.out]; exact HRD.out)
            cases hd : (!bad && l.isEmpty)
            · have HD := Lib.hid hd
              have HX := Lib.hid (dec_no HE.out HRD2.out (by rintro ⟨rfl, rfl, _⟩; cases hd))
              obtain ⟨r0, r1, r2, r3, r4, q2, q3⟩ := R0.out
              have hRs : w.heap.size < wr.heap.size := R0.out.lt
              clear hd
              go_wp2_with (first
                | (go_at_call 98; (with_reducible refine (pdone_any g g l bad _ RD.out (Nat.le_refl _)).mono ?_); rintro ev w' ⟨rfl, rfl⟩; rw [HD.out])
                | fail)
              refine bodyPost_ret (by simp [results, Try.results53, go_sem, r0, r1, r2, r3, r4]; try rfl) rfl ?_
              rw [HX.out.1, HX.out.2]
              exact ⟨none, 0, 0, none, 0, 0, rfl, IsSl.nil, Nat.le_refl _, Nat.zero_le _, IsSl.nil, Nat.le_refl _, Nat.zero_le _, setcells_below BEw.out (Nat.le_refl _) _ _ _ _ _⟩
            · have HD := Lib.hid hd
              obtain ⟨rfl, rfl⟩ : bad = false ∧ l = [] := by
                cases bad <;> cases l <;> simp at hd ⊢
              obtain ⟨Ac, cc, hvc, hlc, hmc, slc⟩ := OW.out.isSlR
              subst hvc
              obtain ⟨As, cs', hvs, hls, hms, sls⟩ := OV.out.isSlR
              subst hvs
              obtain ⟨t0, t1, t2, t3, t4, y2, y3⟩ := AT.out
              obtain ⟨r0, r1, r2, r3, r4, q2, q3⟩ := R0.out
              have hRs : w.heap.size < wr.heap.size := R0.out.lt
              have SLC := Lib.hid slc
              have SLS := Lib.hid sls
              obtain ⟨nc, hnc⟩ : ∃ nc, nc = acc.length := ⟨_, rfl⟩
              obtain ⟨ns, hns⟩ : ∃ ns, ns = acc2.length := ⟨_, rfl⟩
              rw [← hnc] at SLC hlc t2
              try rw [← hnc]
              rw [← hns] at SLS hls t3
              try rw [← hns]
              clear hd OW OV AT HRT HRY HRV hnc hns slc sls
              have HMAY := may_any ⟨x1, x2, acc, acc2, x3⟩ Ac nc cc As ns cs' wr (SLC.out.weak fun _ h => h.2) (SLS.out.weak fun _ h => h.2)
              have HM0 := Lib.hid HMAY
              clear HMAY
              cases hm : mayTxn ⟨x1, x2, acc, acc2, x3⟩
              · have HM := Lib.hid hm
                have HX := Lib.hid (dec_no HE.out HRD2.out (by rintro ⟨_, _, h⟩; rw [hm] at h; cases h))
                clear hm
                go_wp2_with (first
                  | (go_at_call 98; (with_reducible refine (pdone_any g g [] false _ RD.out (Nat.le_refl _)).mono ?_); rintro ev w' ⟨rfl, rfl⟩; rw [HD.out])
                  | (go_at_call 47; (with_reducible refine HM0.out.mono ?_); rintro ev w11 ⟨rfl, bel11⟩; rw [HM.out]; obtain ⟨r0, r1, r2, r3, r4, q2, q3⟩ := R0.out.below bel11; have hRs := Nat.lt_of_lt_of_le hRs bel11.size; have BEX := Lib.hid (BEw.out.trans (bel11.mono BEw.out.size)); clear bel11)
                  | fail)
                refine bodyPost_ret (by simp [results, Try.results53, go_sem, r0, r1, r2, r3, r4]; try rfl) rfl ?_
                rw [HX.out.1, HX.out.2]
                exact ⟨none, 0, 0, none, 0, 0, rfl, IsSl.nil, Nat.le_refl _, Nat.zero_le _, IsSl.nil, Nat.le_refl _, Nat.zero_le _, setcells_below BEX.out (Nat.le_refl _) _ _ _ _ _⟩
              · have HM := Lib.hid hm
                have HX := Lib.hid (dec_ok HE.out HRD2.out hm)
                clear hm
                go_wp2_with (first
                  | (go_at_call 98; (with_reducible refine (pdone_any g g [] false _ RD.out (Nat.le_refl _)).mono ?_); rintro ev w' ⟨rfl, rfl⟩; rw [HD.out])
                  | (go_at_call 47; (with_reducible refine HM0.out.mono ?_); rintro ev w11 ⟨rfl, bel11⟩; rw [HM.out]; obtain ⟨r0, r1, r2, r3, r4, q2, q3⟩ := R0.out.below bel11; have t0 := (bel11.cell (p := ⟨T, 0, none⟩) hTs).trans t0; have t1 := (bel11.cell (p := ⟨T, 1, none⟩) hTs).trans t1; have t2 := (bel11.cell (p := ⟨T, 2, none⟩) hTs).trans t2; have t3 := (bel11.cell (p := ⟨T, 3, none⟩) hTs).trans t3; have t4 := (bel11.cell (p := ⟨T, 4, none⟩) hTs).trans t4; have hRs := Nat.lt_of_lt_of_le hRs bel11.size; have BEX := Lib.hid (BEw.out.trans (bel11.mono BEw.out.size)); have SC := Lib.hid (SLC.out.keep fun p hp => bel11.cell hp.2); have SS := Lib.hid (SLS.out.keep fun p hp => bel11.cell hp.2); have hs11 := bel11.size; clear bel11)
                  | fail)
                refine bodyPost_ret (by simp [results, Try.results53, go_sem, r0, r1, r2, r3, r4]; try rfl) rfl ?_
                rw [HX.out.1, HX.out.2]
                exact ⟨Ac, nc, cc, As, ns, cs', rfl, (setcells_keep SC.out (by omega) _ _ _ _ _).weak (fun b hb => by simp; omega), hlc, hmc, (setcells_keep SS.out (by omega) _ _ _ _ _).weak (fun b hb => by simp; omega), hls, hms, setcells_below BEX.out (Nat.le_refl _) _ _ _ _ _⟩
          · obtain ⟨q, rfl⟩ : ∃ q, k = q + 1 := ⟨k - 1, by omega⟩
            obtain ⟨t0, t1, t2, t3, t4, y2, y3⟩ := hat
            obtain ⟨⟨y, lq, bq⟩, hy⟩ : ∃ a, a = textP l bad := ⟨_, rfl⟩
            have hwq := textP_wf HWF.out bad
            rw [← hy] at hwq
            have HWQ := Lib.hid hwq
            have HYY := Lib.hid hy
            have HNX := Lib.hid (show rdTxts q lq bq (acc2 ++ [y]) = (ts, l7, b7) by have h := HRE.out; rw [rdTxts, ← hy] at h; exact h)
            have RDD := Lib.hid RD.out.drew
            have ATD := Lib.hid AT.out.drew
            have OWD := Lib.hid OW.out.drew
            have OVD := Lib.hid OV.out.drew
            clear hy hwq hk
            go_wp2_with fail
            go_region_law (first
              | (refine step_append_Own _ rfl (.tmp 48) (.tmp 51) 66 rfl Y 9 j0 _ 16 Try.underlying66 ji jz0 jz1 jz2 rfl (R := strRep) (S := fun _ => False) (l := acc2) (l' := [y]) v3 rfl (OV8.out.alloc _) _ 1 1 rfl (Src.new (cs := [.string y]) ⟨rfl, HWQ.out.1⟩) (by simp only [maxLen]; omega) (by omega) (by omega) (by simp; omega) ?_; intro v9 w9 own9 gr9 at9; obtain ⟨A9, c9, hv9, hlc9, hcm9, sl9⟩ := own9.isSlB; obtain ⟨m9, hm9⟩ : ∃ m9, m9 = (acc2 ++ [y]).length := ⟨_, rfl⟩; rw [← hm9] at hv9; subst hv9; clear hm9 hlc9 hcm9 sl9; have AT9 := Lib.hid ((AT8.out.alloc _).grown gr9 (fun e => by have := HRV.out _ e; omega)); obtain ⟨s0, s1, s2, s3, s4, u2, u3⟩ := AT9.out; have OV9 := Lib.hid own9; have OW9 := Lib.hid ((OW8.out.alloc _).kept gr9 (fun k hk => ⟨fun e => (by have h1 := HRV.out k hk; have h2 := HRY.out k e; omega), id⟩)); have RD9 := Lib.hid ((RD8.out.alloc (Nat.le_refl _) _).grown (Nat.le_refl _) gr9 (fun k hk => by have := HRV.out k hk; omega)); have BE9 := Lib.hid ((BE8.out.alloc (by omega) _).grown gr9 (by simp; omega) (fun k hk => by have := HRV.out k hk; omega)); have hYs9 : Y ≤ w9.heap.size := (by have := gr9.size; simp at this; omega); clear own9 gr9 at9)
              | (go_simp; go_at_call 97; (with_reducible refine (ptext_any g g l bad _ RDD.out (Nat.le_refl _)).mono ?_); rintro ev w8 ⟨rfl, rd8, gr8⟩; rw [← HYY.out] at rd8 ⊢; obtain ⟨s0, s1, s2, s3, s4, u2, u3⟩ := ATD.out.grown gr8 (by intro e; injection e with e; omega); have AT8 := Lib.hid (ATD.out.grown gr8 (by intro e; injection e with e; omega)); have OW8 := Lib.hid (OWD.out.kept gr8 (fun k hk => ⟨fun e => (by have h1 := HRT.out k e; injection hk with hk; omega), id⟩)); have OV8 := Lib.hid (OVD.out.kept gr8 (fun k hk => ⟨fun e => (by have h1 := HRV.out k e; injection hk with hk; omega), id⟩)); have hs8 : T < w8.heap.size := AT8.out.lt; have hYs8 : Y ≤ w8.heap.size := (by have := gr8.size; exact Nat.le_trans hYs this); have RD8 := Lib.hid rd8; have BE8 := Lib.hid ((below_drewN BE.out 1).grown gr8 (Nat.le_of_lt (Nat.lt_trans hTg hTs)) (fun k hk => by injection hk with hk; omega)); clear rd8 gr8)
              | fail)
            all_goals
              go_wp2_with fail
              go_roundw
              case rel => exact ⟨q, lq, bq, acc2 ++ [y], _, by go_num, by rw [List.length_append]; simp only [List.length_cons, List.length_nil]; omega, HNX.out, HWQ.out.2, RD9.out.stored (Nat.le_refl _) hTg 3 _, OW9.out.kept (grownBy_set w9 ⟨T, 3, none⟩ _) (fun k hk => ⟨fun e => (by have h1 := OW9.out.row_ge e; injection hk with hk; dsimp only at hk; omega), id⟩), OV9.out.kept (grownBy_set w9 ⟨T, 3, none⟩ _) (fun k hk => ⟨fun e => (by have h1 := OV9.out.row_ge e; injection hk with hk; dsimp only at hk; omega), id⟩), AT9.out.set3 _, BE9.out.setCell (Nat.le_of_lt hTg) _, by simpa using hYs9⟩
              case measure => simp [intOf]
      · obtain ⟨q, rfl⟩ : ∃ q, k = q + 1 := ⟨k - 1, by omega⟩
        obtain ⟨t0, t1, t2, t3, t4, y2, y3⟩ := hat
        obtain ⟨⟨y, lq, bq⟩, hy⟩ : ∃ a, a = rdChg l bad := ⟨_, rfl⟩
        have hwq := rdChg_wf HWF.out bad
        rw [← hy] at hwq
        have HWQ := Lib.hid hwq
        have HY := Lib.hid hy
        have HNX := Lib.hid (show rdChgs q lq bq (acc ++ [y]) = (cs, l5, b5) by have h := HRE.out; rw [rdChgs, ← hy] at h; exact h)
        have RDD := Lib.hid RD.out.drew
        have ATD := Lib.hid AT.out.drew
        have OWD := Lib.hid OW.out.drew
        clear hy hwq hk
        go_wp2_with fail
        go_region_law (first
          | (refine step_append_Own _ rfl (.tmp 35) (.tmp 38) 22 rfl (T + 1) 53 i0 _ 40 Try.underlying22 hi hz0 hz1 hz2 rfl (R := chgRep) (S := fun _ => False) (l := acc) (l' := [y]) v2 rfl (OW8.out.alloc _) _ 1 1 rfl (Src.new (cs := y.cells) ⟨rfl, HWQ.out.1⟩) (by simp only [maxLen]; omega) (by omega) (by omega) (by simp; omega) ?_; intro v9 w9 own9 gr9 at9; obtain ⟨A9, c9, hv9, hlc9, hcm9, sl9⟩ := own9.isSlB; obtain ⟨m9, hm9⟩ : ∃ m9, m9 = (acc ++ [y]).length := ⟨_, rfl⟩; rw [← hm9] at hv9; subst hv9; clear hm9 hlc9 hcm9 sl9; have AT9 := Lib.hid ((AT8.out.alloc _).grown gr9 (fun e => Nat.lt_irrefl _ (HRT.out _ e))); obtain ⟨s0, s1, s2, s3, s4, u2, u3⟩ := (AT8.out.alloc _).grown gr9 (fun e => Nat.lt_irrefl _ (HRT.out _ e)); have OW9 := Lib.hid own9; have RD9 := Lib.hid ((RD8.out.alloc (Nat.le_refl _) _).grown (Nat.le_refl _) gr9 (fun k hk => by have := HRT.out k hk; omega)); have BE9 := Lib.hid ((BE8.out.alloc (by omega) _).grown gr9 (by simp; omega) (fun k hk => by have := HRT.out k hk; omega)); clear own9 gr9 at9)
          | (go_simp; go_at_call 96; (with_reducible refine (txnchange_any g g l bad _ RDD.out (Nat.le_refl _)).mono ?_); rintro ev w8 ⟨rfl, rd8, gr8⟩; rw [← HY.out] at rd8 ⊢; obtain ⟨s0, s1, s2, s3, s4, u2, u3⟩ := ATD.out.grown gr8 (by intro e; injection e with e; omega); have AT8 := Lib.hid (ATD.out.grown gr8 (by intro e; injection e with e; omega)); have OW8 := Lib.hid (OWD.out.kept gr8 (fun k hk => ⟨fun e => (by have h1 := HRT.out k e; injection hk with hk; omega), id⟩)); have hs8 : T < w8.heap.size := AT8.out.lt; have RD8 := Lib.hid rd8; have BE8 := Lib.hid ((below_drewN BE.out 1).grown gr8 (Nat.le_of_lt (Nat.lt_trans hTg hTs)) (fun k hk => by injection hk with hk; omega)); clear rd8 gr8)
          | fail)
        all_goals
          go_wp2_with fail
          go_roundw
          case rel => exact ⟨q, lq, bq, acc ++ [y], _, by go_num, by rw [List.length_append]; simp only [List.length_cons, List.length_nil]; omega, HNX.out, HWQ.out.2, RD9.out.stored (Nat.le_refl _) hTg 2 _, OW9.out.kept (grownBy_set w9 ⟨T, 2, none⟩ _) (fun k hk => ⟨fun e => (by have h1 := OW9.out.row_ge e; injection hk with hk; dsimp only at hk; omega), id⟩), AT9.out.set2 _, BE9.out.setCell (Nat.le_of_lt hTg) _⟩
          case measure => simp [intOf]
  · have HX := Lib.hid (dec_err he)
    have HE := Lib.hid (show decE b = decE b from rfl)
    obtain ⟨e0, he0⟩ : ∃ e0, e0 = decE b := ⟨_, rfl⟩
    have hb1 : (e0 == 0) = false := by rw [he0]; simpa using he
    have hb2 : (e0 != 0) = true := by rw [he0]; simpa using he
    have HE0 := Lib.hid he0
    clear he he0
    go_enter Try.func53, Try.ntmps53
    go_wp2_with (first
      | (go_at_call 92; (with_reducible refine (decode_any A n c b _ ((H.out.below (bw0 _)).more (by simp)) h1 h2).mono ?_); rintro ev w2 ⟨v2, rfl, own2, bel2⟩; rw [← HE0.out]; have R0 := Lib.hid ((TxnAt.new (w := w) 0 0 (.slice none 0 0) (.slice none 0 0) 0 68).below bel2); obtain ⟨r0, r1, r2, r3, r4, q2, q3⟩ := R0.out; have hRs := R0.out.lt; have BEX := Lib.hid ((bw0 _).trans (bel2.mono (by simp))); clear own2 bel2)
      | fail)
    refine bodyPost_ret (by simp [results, Try.results53, go_sem, r0, r1, r2, r3, r4]; try rfl) rfl ?_
    rw [HX.out.1, HX.out.2, ← HE0.out]
    exact ⟨none, 0, 0, none, 0, 0, rfl, IsSl.nil, Nat.le_refl _, Nat.zero_le _, IsSl.nil, Nat.le_refl _, Nat.zero_le _, setcells_below BEX.out (Nat.le_refl _) _ _ _ _ _⟩
end Go.Proofs.Ytojjeogpggielaa
