/- The walk of the law BatchFull. Written by gen_batf.py. -/
import Derived.Test.YtcohheoahdbgmaaBatN
import Derived.Deep.RegionHeld3
import Derived.Deep.Cut
set_option linter.unusedVariables false
set_option linter.unusedSimpArgs false
namespace Go.Proofs.Ytcohheoahdbgmaa
open Go.RowKit

/-- One item in a block of its own. -/
theorem one_lies {w : World} {x : Item} {A : Option Addr} {n c : Nat} {A2 : Option Addr} {n2 c2 : Nat} (hx : Lies w x A n c A2 n2 c2) (h1 : I64 x.lsn) (t : TypeId) {d : Nat} (hd : d = w.heap.size) {cs : Array Value} (hcs : cs.toList = [.int .i64 x.lsn, .slice A n c, .slice A2 n2 c2]) :
    IsSl itemRep (w.alloc (.cells cs t)) (· < (w.alloc (.cells cs t)).heap.size) (some ⟨d, 0, none⟩) 1 [x] := by
  subst hd
  have hS : ∀ b, b < w.heap.size → b < (w.alloc (.cells cs t)).heap.size := fun b h => by simp; omega
  have rx := itemRep.keep (w' := w.alloc (.cells cs t)) (hx.rel h1 (S := (· < w.heap.size)) (fun _ h => h)) (fun p hp => ((Below.refl w.heap.size w).alloc (Nat.le_refl _) _).cell hp)
  exact ⟨rfl, _, Rows.single (itemRep.weak rx hS), fun _ => ⟨w.heap.size, 0, rfl, by simp, fun j u hu => by
    rw [World.cell?_alloc_at _ _ _ _ rfl]
    have : cs.toList[0 + j]? = some u := by rw [hcs, Nat.zero_add]; simpa using hu
    simpa using this⟩⟩

def fullOpr (j : Nat) : Opr := ⟨1, 0, (j : Int) + 1, false, ByteArray.empty⟩
def fullOps (m : Nat) : List Opr := (List.range m).map fullOpr
def fullItem (i : Nat) : Item := ⟨(i : Int) + 1, fullOps 64, []⟩
def fulls (k : Nat) : List Item := (List.range k).map fullItem
def fullNote : Note := ⟨2, 1, 0, 0, 0, 0, false⟩
def fullY (j : Nat) : Item := ⟨1, [], List.replicate j fullNote⟩

theorem fullOps_len (m : Nat) : (fullOps m).length = m := by unfold fullOps; rw [List.length_map, List.length_range]
theorem fulls_len (m : Nat) : (fulls m).length = m := by unfold fulls; rw [List.length_map, List.length_range]
theorem fullOps_snoc (m : Nat) : fullOps (m + 1) = fullOps m ++ [fullOpr m] := by unfold fullOps; rw [List.range_succ, List.map_append]; rfl
theorem fulls_snoc (m : Nat) : fulls (m + 1) = fulls m ++ [fullItem m] := by unfold fulls; rw [List.range_succ, List.map_append]; rfl
theorem fullItem_may {i : Nat} (h : i < 100) : mayItem (fullItem i) = true := by
  refine mayItem_of (by show 1 ≤ (i : Int) + 1; omega) (by show (i : Int) + 1 ≤ 1099511627776; omega) (by show (fullOps 64).length ≤ 4096; rw [fullOps_len]; omega) (by show ([] : List Note).length ≤ 256; simp) ?_ (fun n h => by cases h)
  intro o ho
  have ho' : o ∈ fullOps 64 := ho
  unfold fullOps at ho'
  obtain ⟨j, hj, rfl⟩ := List.mem_map.mp ho'
  have := List.mem_range.mp hj
  refine decide_eq_true ⟨?_, ?_, ?_, ?_, ?_, ?_, ?_, .inl rfl⟩
  · show (1 : Int) ≤ 1; omega
  · show (1 : Int) ≤ (i : Int) + 1; omega
  · show (0 : Int) ≤ 0; omega
  · show (0 : Int) < 8; omega
  · show (1 : Int) ≤ (j : Int) + 1; omega
  · show (j : Int) + 1 ≤ 1099511627776; omega
  · show ByteArray.empty.size ≤ 32; decide
theorem fulls_all : ∀ (k : Nat), k < 100 → (fulls k).all mayItem = true ∧ riseL (fulls k) = true ∧ lsnL (fulls k) = (k : Int) ∧ (opsOf (fulls k)).length = 64 * k ∧ (notesOf (fulls k)).length = 0
  | 0, _ => ⟨rfl, rfl, rfl, rfl, rfl⟩
  | k + 1, h => by
    obtain ⟨h1, h2, h3, h4, h5⟩ := fulls_all k (by omega)
    have hm := fullItem_may (i := k) (by omega)
    rw [fulls_snoc]
    refine ⟨by rw [List.all_append, h1, List.all_cons, hm]; rfl, ?_, ?_, ?_, ?_⟩
    · rw [riseL_snoc, h2, h3, decide_eq_true (by show (k : Int) < (k : Int) + 1; omega)]; rfl
    · rw [lsnL_snoc]; show (k : Int) + 1 = ((k + 1 : Nat) : Int); omega
    · rw [opsOf_snoc, List.length_append, h4]; show 64 * k + (fullOps 64).length = _; rw [fullOps_len]; omega
    · rw [notesOf_snoc, List.length_append, h5]; rfl
theorem fulls_join {k : Nat} (h0 : 0 < k) (h : k < 100) : (64 < k → joinE (fulls k) = 1 ∧ (joinV (fulls k)).ops.length = 0) ∧ (k ≤ 64 → joinE (fulls k) = 0 ∧ (joinV (fulls k)).ops.length = 64 * k) := by
  obtain ⟨h1, h2, h3, h4, h5⟩ := fulls_all k h
  constructor
  · intro hk
    have := joinE_size (l := fulls k) (.inr (.inl (by rw [h4]; omega)))
    exact ⟨this.1, by rw [this.2]; rfl⟩
  · intro hk
    have := joinE_ok h1 (by rw [fulls_len]; omega) (by rw [h4]; omega) (by rw [h5]; omega) h2
    exact ⟨this.1, by rw [this.2]; exact h4⟩
theorem fullY_may (j : Nat) : mayItem (fullY j) = decide (j ≤ 256) := by
  by_cases h : j ≤ 256
  · rw [decide_eq_true h]
    refine mayItem_of (by show (1 : Int) ≤ 1; omega) (by show (1 : Int) ≤ 1099511627776; omega) (Nat.zero_le _) (by show (List.replicate j fullNote).length ≤ 256; rw [List.length_replicate]; exact h) (fun o h => by cases h) ?_
    intro n hn
    obtain ⟨_, rfl⟩ := List.mem_replicate.mp hn
    show mayNot fullNote 1 = true
    decide
  · rw [decide_eq_false h]
    unfold mayItem
    have : decide (1 ≤ (fullY j).lsn ∧ (fullY j).lsn ≤ 1099511627776 ∧ (fullY j).ops.length ≤ 4096 ∧ (fullY j).notes.length ≤ 256) = false := by
      apply decide_eq_false
      rintro ⟨_, _, _, h4⟩
      have h5 : (List.replicate j fullNote).length ≤ 256 := h4
      rw [List.length_replicate] at h5
      omega
    rw [this, Bool.false_and]
theorem fullY_join (j : Nat) : (j ≤ 256 → joinE [fullY j] = 0 ∧ (joinV [fullY j]).notes.length = j) ∧ (256 < j → joinE [fullY j] = 1) := by
  constructor
  · intro h
    have := joinE_ok (l := [fullY j]) (by rw [List.all_cons, fullY_may, decide_eq_true h]; rfl) (by simp) (by simp [opsOf, fullY]) (by simp [notesOf, fullY]; omega) (by rw [riseL_from]; simp [riseFrom, fullY])
    exact ⟨this.1, by rw [this.2]; simp [notesOf, fullY]⟩
  · intro h
    exact (joinE_may (l := [fullY j]) (by rw [List.all_cons, fullY_may, decide_eq_false (by omega)]; rfl)).1
theorem fullOpr_wf (j : Nat) (h : j < 100) : (fullOpr j).wf := mayOpr_wf (lsn := 1) (decide_eq_true ⟨(by show (1 : Int) ≤ 1; omega), (by show (1 : Int) ≤ 1; omega), (by show (0 : Int) ≤ 0; omega), (by show (0 : Int) < 8; omega), (by show (1 : Int) ≤ (j : Int) + 1; omega), (by show (j : Int) + 1 ≤ 1099511627776; omega), (by show ByteArray.empty.size ≤ 32; decide), .inl rfl⟩) (by omega)
theorem fullNote_wf : fullNote.wf := mayNot_wf (lsn := 1) (by decide) (by omega)

theorem fullMay_any (p : Nat) (A : Option Addr) (c : Nat) (w : World) (h : Lies w (fullY p) none 0 0 A p c) :
    Calls Try.prog 20 #[.agg #[.int .i64 1, .slice none 0 0, .slice A p c]] w fun e w' => e = .returned (.bool (mayItem (fullY p))) ∧ Below w.heap.size w w' :=
  batMay_any (fullY p) none 0 0 A p c w h.s h.s2 h.l h.m h.l2 h.m2

set_option maxRecDepth 100000 in
set_option maxHeartbeats 16000000 in
theorem batchFull_walk (w : World) (a : Int) (_ : I64 a) (b : Int) (_ : I64 b) :
    Calls Try.prog 8 #[.int .i64 a, .int .i64 b] w fun e w' => e = .returned (.bool true) ∧ Below w.heap.size w w' := by
  obtain ⟨i0, hi, hz0, hz1, hz2⟩ := info_parts info_item
  obtain ⟨o0, oi, oz0, oz1, oz2⟩ := info_parts info_opr
  obtain ⟨j0, ji, jz0, jz1, jz2⟩ := info_parts info_note
  obtain ⟨q, hq⟩ : ∃ q, q = modOf a 3 := ⟨_, rfl⟩
  have hqr := modOf_range a 3 (by omega)
  rw [← hq] at hqr
  obtain ⟨K, hK⟩ : ∃ K : Nat, (K : Int) = 63 + q := ⟨(63 + q).toNat, by omega⟩
  obtain ⟨q2, hq2⟩ : ∃ q, q = modOf b 3 := ⟨_, rfl⟩
  have hqr2 := modOf_range b 3 (by omega)
  rw [← hq2] at hqr2
  obtain ⟨J, hJ⟩ : ∃ J : Nat, (J : Int) = 255 + q2 := ⟨(255 + q2).toNat, by omega⟩
  have hK1 : 63 ≤ K := by omega
  have hK2 : K ≤ 65 := by omega
  have hJ1 : 255 ≤ J := by omega
  have hJ2 : J ≤ 257 := by omega
  have HQ := Lib.hid hq
  have HK := Lib.hid hK
  have HQ2 := Lib.hid hq2
  have HJ := Lib.hid hJ
  clear hq hK hq2 hJ
  go_enter Try.func8, Try.ntmps8
  go_wp2_with (first
    | (go_at_call 17; (with_reducible refine (mod_any a 3 _ (by omega) (by omega)).mono ?_); rintro e w' ⟨rfl, rfl⟩; rw [← HQ.out])
    | fail)
  rw [← HK.out]
  go_loopw [6, 7] (fun v i wr => ∃ (k : Nat), i = .int .i64 k ∧ k ≤ K ∧ OwnI wr w.heap.size v (fulls k) ∧ Below w.heap.size w wr) (fun _ i _ => K - (intOf i).toNat)
  case atStart => exact ⟨0, rfl, Nat.zero_le _, ⟨fun _ => False, fun _ h => h.elim, Own.nil _ _ _ (fun _ h => h.elim) _ _⟩, Below.refl _ _⟩
  case round =>
    obtain ⟨wo, rfl⟩ : ∃ x : World, x = wr := ⟨_, rfl⟩
    obtain ⟨k, rfl, hk, hown, hbel⟩ := hrel
    have BE := Lib.hid hbel
    have hsz := hbel.size
    clear hbel
    by_cases hlt : k < K
    · obtain ⟨S, hS, hown⟩ := hown
      have HS := Lib.hid hS
      have OW := Lib.hid hown
      have hd1 : decide ((k : Int) < (K : Int)) = true := decide_eq_true (by omega)
      have HFS := Lib.hid (fulls_snoc k)
      have hfl : (fulls k).length ≤ 65 := by rw [fulls_len]; omega
      clear hS hown
      obtain ⟨W, hW⟩ : ∃ W, W = wo.alloc (.cells #[.int .i64 ((k : Int) + 1), .slice none 0 0, .slice none 0 0] 25) := ⟨_, rfl⟩
      have KW := Lib.hid (show Blk W wo.heap.size [.int .i64 ((k : Int) + 1), .slice none 0 0, .slice none 0 0] by rw [hW]; exact Blk.new rfl rfl)
      have BW := Lib.hid (show Below wo.heap.size wo W by rw [hW]; exact below_allocB (Below.refl _ _) _)
      have HW := Lib.hid hW
      clear hW
      go_upto_block 0 with fail
      go_wp2_with fail
      rw [← HW.out]
      go_loopw [9] (fun j wr => ∃ (p : Nat) (v2 : Value), j = .int .i64 p ∧ p ≤ 64 ∧ Own oprRep wr (wo.heap.size + 1) (fun _ => False) 29 v2 (fullOps p) ∧ Blk wr wo.heap.size [.int .i64 ((k : Int) + 1), v2, .slice none 0 0] ∧ Below wo.heap.size wo wr) (fun j _ => 64 - (intOf j).toNat)
      case atStart => exact ⟨0, _, rfl, Nat.zero_le _, Own.nil _ _ _ (fun _ h => h.elim) _ _, KW.out, BW.out⟩
      case round =>
        obtain ⟨p, v2, rfl, hp, hown, hat, hbel⟩ := hrel
        have hfp : (fullOps p).length ≤ 64 := by rw [fullOps_len]; exact hp
        have OP := Lib.hid hown
        have AT := Lib.hid hat
        have BP := Lib.hid hbel
        have HRT : Hid (∀ r, rowOf v2 = some r → wo.heap.size < r) := Lib.hid (fun r hr => Nat.lt_of_succ_le (OP.out.row_ge hr))
        have hTs := hat.lt
        clear hown hat hbel
        by_cases hlp : p < 64
        · obtain ⟨t0, t1, t2, tz⟩ := AT.out.c3
          have hd2 : decide ((p : Int) < 64) = true := decide_eq_true (by omega)
          have HPS := Lib.hid (fullOps_snoc p)
          have HWF := Lib.hid (fullOpr_wf p (by omega))
          go_wp2_with (first
            | (at_builtin; refine wpList_append_Own _ rfl _ _ 22 rfl (wo.heap.size + 1) 29 o0 _ 48 Try.underlying22 oi oz0 oz1 oz2 rfl (R := oprRep) (S := fun _ => False) (l := fullOps p) (l' := [fullOpr p]) v2 rfl (OP.out.alloc _) _ 1 1 rfl (Src.new (a := fullOpr p) (cs := (fullOpr p).cells) ⟨rfl, HWF.out⟩) (by simp only [maxLen]; omega) (by omega) (by omega) (by simp; omega) ?_; intro v5 w5 own5 gr5 at5; have OP5 := Lib.hid own5; have AT5 := Lib.hid ((AT.out.alloc _).grown gr5 (fun r hr e => by have := HRT.out r hr; omega)); have BP5 := Lib.hid ((BP.out.alloc (by omega) _).grown gr5 (by simp; omega) (fun r hr => by have := HRT.out r hr; omega)); obtain ⟨A5, c5, hv5, hlc5, hcm5, sl5⟩ := own5.isSlB; obtain ⟨m5, hm5⟩ : ∃ m5, m5 = (fullOps p ++ [fullOpr p]).length := ⟨_, rfl⟩; rw [← hm5] at hv5; subst hv5; clear hm5 hlc5 hcm5 sl5 own5 gr5 at5; obtain ⟨s0, s1, s2, sz⟩ := AT5.out.c3; have hT5 := AT5.out.lt)
            | fail)
          go_roundw
          case rel => exact ⟨p + 1, _, by go_num, by omega, by rw [HPS.out]; exact OP5.out.kept (grownBy_set _ ⟨wo.heap.size, 1, none⟩ _) (fun r hr => ⟨fun e => (by have h1 := OP5.out.row_ge e; injection hr with hr; dsimp only at hr; omega), id⟩), AT5.out.put (by simp) _ rfl, BP5.out.setCell (p := ⟨wo.heap.size, 1, none⟩) (Nat.le_refl _) _⟩
          case measure => simp [intOf]; omega
        · obtain rfl : p = 64 := by omega
          have hd2 : decide (((64 : Nat) : Int) < 64) = false := by decide
          obtain ⟨A5, c5, hv5, hlc5, hcm5, sl5⟩ := OP.out.isSl (S' := fun g => wo.heap.size ≤ g ∧ g < wr.heap.size) (fun _ h => h.elim) (fun g h1 h2 => ⟨by omega, h2⟩)
          subst hv5
          obtain ⟨m5, hm5⟩ : ∃ m5, m5 = (fullOps 64).length := ⟨_, rfl⟩
          rw [← hm5] at hlc5 sl5 AT
          have SL5 := Lib.hid sl5
          obtain ⟨t0, t1, t2, tz⟩ := AT.out.c3
          have OW1 := Lib.hid (OwnI.next (W := wr.alloc (.cells #[.int .i64 ((k : Int) + 1), .slice A5 m5 c5, .slice none 0 0] 25)) (B := wr.heap.size) HS.out OW.out BP.out.size (below_allocB BP.out _) (by simp))
          have REL := Lib.hid (show itemRep.rel (wr.alloc (.cells #[.int .i64 ((k : Int) + 1), .slice A5 m5 c5, .slice none 0 0] 25)) (fun g => S g ∨ (wo.heap.size ≤ g ∧ g < wr.heap.size)) (fullItem k) [.int .i64 ((k : Int) + 1), .slice A5 m5 c5, .slice none 0 0] from itemRep.weak (itemRep.keep (w := wr) (S := fun g => wo.heap.size ≤ g ∧ g < wr.heap.size) ⟨_, _, rfl, (by show I64 ((k : Int) + 1); unfold I64; omega), ⟨A5, m5, c5, rfl, SL5.out, hlc5, hcm5⟩, ⟨none, 0, 0, rfl, IsSl.nil, Nat.le_refl _, Nat.zero_le _⟩⟩ (fun r hr => ((Below.refl wr.heap.size wr).alloc (Nat.le_refl _) _).cell hr.2)) (fun g hg => .inr hg))
          clear hm5 sl5 hlc5 hcm5
          have hwo : wo.heap.size ≤ wr.heap.size := BP.out.size
          go_wp2_with (first
            | (at_builtin; refine wpList_append_Own _ rfl _ _ 34 rfl w.heap.size 25 i0 _ 56 Try.underlying34 hi hz0 hz1 hz2 rfl (R := itemRep) (S := fun g => S g ∨ (wo.heap.size ≤ g ∧ g < wr.heap.size)) (l := fulls k) (l' := [fullItem k]) u6 rfl OW1.out _ 1 1 rfl ?_ (by simp only [maxLen]; omega) (by omega) (by omega) (by simp; omega) ?_; exact Src.newAt (cs := [.int .i64 ((k : Int) + 1), .slice A5 m5 c5, .slice none 0 0]) (by simp) REL.out; intro v6 w6 own6 gr6 at6; have OW6 := Lib.hid own6; have BW6 := Lib.hid ((below_allocB (below_next BE.out BP.out) _).grown gr6 (by simp; omega) (fun g hg => OW1.out.row_ge hg)); clear own6 gr6 at6)
            | fail)
          go_roundw
          case rel => exact ⟨k + 1, by go_num, by omega, ⟨fun g => S g ∨ (wo.heap.size ≤ g ∧ g < wr.heap.size), fun g hg => Or.elim hg (HS.out g) (fun hg => by omega), by rw [HFS.out]; exact OW6.out⟩, BW6.out⟩
          case measure => simp [intOf]; omega
    · obtain rfl : k = K := by omega
      have hkk : decide ((k : Int) < (k : Int)) = false := by simp
      obtain ⟨AL, cL, rfl, hlc, hcm, slL, -⟩ := hown.sl
      rw [fulls_len] at hlc slL ⊢
      have SL := Lib.hid slL
      have FJ := Lib.hid (fulls_join (k := k) (by omega) (by omega))
      obtain ⟨L, hL⟩ : ∃ L, L = fulls k := ⟨_, rfl⟩
      rw [← hL] at SL FJ
      clear hown slL hL hlt
      go_wp2_with (first
        | (go_at_call 17; (with_reducible refine (mod_any b 3 _ (by omega) (by omega)).mono ?_); rintro e w' ⟨rfl, rfl⟩; rw [← HQ2.out])
        | fail)
      rw [← HJ.out]
      obtain ⟨W, hW⟩ : ∃ W, W = wo.alloc (.cells #[.int .i64 1, .slice none 0 0, .slice none 0 0] 25) := ⟨_, rfl⟩
      have KW := Lib.hid (show Blk W wo.heap.size [.int .i64 1, .slice none 0 0, .slice none 0 0] by rw [hW]; exact Blk.new rfl rfl)
      have BW := Lib.hid (show Below wo.heap.size wo W by rw [hW]; exact below_allocB (Below.refl _ _) _)
      rw [← hW]
      clear hW
      go_loopw [12] (fun j wr => ∃ (p : Nat) (v3 : Value), j = .int .i64 p ∧ p ≤ J ∧ Own noteRep wr (wo.heap.size + 1) (fun _ => False) 27 v3 (List.replicate p fullNote) ∧ Blk wr wo.heap.size [.int .i64 1, .slice none 0 0, v3] ∧ Below wo.heap.size wo wr) (fun j _ => J - (intOf j).toNat)
      case atStart => exact ⟨0, _, rfl, Nat.zero_le _, Own.nil _ _ _ (fun _ h => h.elim) _ _, KW.out, BW.out⟩
      case round =>
        obtain ⟨p, v3, rfl, hp, hown, hat, hbel⟩ := hrel
        have hfp : (List.replicate p fullNote).length ≤ 257 := by rw [List.length_replicate]; omega
        have OP := Lib.hid hown
        have AT := Lib.hid hat
        have BP := Lib.hid hbel
        have HRT : Hid (∀ r, rowOf v3 = some r → wo.heap.size < r) := Lib.hid (fun r hr => Nat.lt_of_succ_le (OP.out.row_ge hr))
        have hTs := hat.lt
        clear hown hat hbel
        by_cases hlp : p < J
        · obtain ⟨t0, t1, t2, tz⟩ := AT.out.c3
          have hd2 : decide ((p : Int) < (J : Int)) = true := decide_eq_true (by omega)
          have HPS := Lib.hid (show List.replicate (p + 1) fullNote = List.replicate p fullNote ++ [fullNote] from List.replicate_succ')
          go_wp2_with (first
            | (at_builtin; refine wpList_append_Own _ rfl _ _ 23 rfl (wo.heap.size + 1) 27 j0 _ 56 Try.underlying23 ji jz0 jz1 jz2 rfl (R := noteRep) (S := fun _ => False) (l := List.replicate p fullNote) (l' := [fullNote]) v3 rfl (OP.out.alloc _) _ 1 1 rfl (Src.new (a := fullNote) (cs := fullNote.cells) ⟨rfl, fullNote_wf⟩) (by simp only [maxLen]; omega) (by omega) (by omega) (by simp; omega) ?_; intro v5 w5 own5 gr5 at5; have OP5 := Lib.hid own5; have AT5 := Lib.hid ((AT.out.alloc _).grown gr5 (fun r hr e => by have := HRT.out r hr; omega)); have BP5 := Lib.hid ((BP.out.alloc (by omega) _).grown gr5 (by simp; omega) (fun r hr => by have := HRT.out r hr; omega)); obtain ⟨A5, c5, hv5, hlc5, hcm5, sl5⟩ := own5.isSlB; obtain ⟨m5, hm5⟩ : ∃ m5, m5 = (List.replicate p fullNote ++ [fullNote]).length := ⟨_, rfl⟩; rw [← hm5] at hv5; subst hv5; clear hm5 hlc5 hcm5 sl5 own5 gr5 at5; obtain ⟨s0, s1, s2, sz⟩ := AT5.out.c3; have hT5 := AT5.out.lt)
            | fail)
          go_roundw
          case rel => exact ⟨p + 1, _, by go_num, by omega, by rw [HPS.out]; exact OP5.out.kept (grownBy_set _ ⟨wo.heap.size, 2, none⟩ _) (fun r hr => ⟨fun e => (by have h1 := OP5.out.row_ge e; injection hr with hr; dsimp only at hr; omega), id⟩), AT5.out.put (by simp) _ rfl, BP5.out.setCell (p := ⟨wo.heap.size, 2, none⟩) (Nat.le_refl _) _⟩
          case measure => simp [intOf]; omega
        · obtain rfl : p = J := by omega
          have hpp : decide ((p : Int) < (p : Int)) = false := by simp
          obtain ⟨A5, c5, hv5, hlc5, hcm5, sl5⟩ := OP.out.isSlR
          subst hv5
          rw [List.length_replicate] at hlc5 sl5 AT
          have LY := Lib.hid (show Lies wr (fullY p) none 0 0 A5 p c5 from ⟨IsSl.nil, Nat.le_refl _, Nat.zero_le _, sl5.weak (fun _ h => by omega), hlc5, hcm5⟩)
          have HYM := Lib.hid (fullY_may p)
          have HI1 := Lib.hid (show I64 (fullY p).lsn by show I64 (1 : Int); unfold I64; omega)
          have HYJ := Lib.hid (fullY_join p)
          obtain ⟨t0, t1, t2, tz⟩ := AT.out.c3
          have SLp := Lib.hid (SL.out.afterB BP.out)
          have BPw := Lib.hid (below_next BE.out BP.out)
          clear sl5 hlc5 hcm5 hfp
          have hk64 : (k ≤ 64 ∨ 64 < k) := by omega
          have hp256 : (p ≤ 256 ∨ 256 < p) := by omega
          obtain ⟨X, hX⟩ : ∃ X, X = joinV L := ⟨_, rfl⟩
          obtain ⟨Z, hZ⟩ : ∃ Z, Z = joinV [fullY p] := ⟨_, rfl⟩
          obtain ⟨eX, heX⟩ : ∃ eX, eX = joinE L := ⟨_, rfl⟩
          obtain ⟨eZ, heZ⟩ : ∃ eZ, eZ = joinE [fullY p] := ⟨_, rfl⟩
          rw [← hX, ← heX] at FJ
          rw [← hZ, ← heZ] at HYJ
          have HX := Lib.hid hX
          have HZ := Lib.hid hZ
          have HEX := Lib.hid heX
          have HEZ := Lib.hid heZ
          clear hX hZ heX heZ
          go_upto_region 20 with (first
            | (go_at_call 28; (with_reducible refine (batJoin_any AL k cL L wr SLp.out (by omega)).mono ?_); rintro e w1 ⟨A1, n1, c1, E1, m1, d1, rfl, s1, l1, k1, s1', l1', k1', bel1⟩; rw [← HX.out] at s1 s1' ⊢; rw [← HEX.out]; have bw1 : Below w1.heap.size w1 (w1.alloc (.cells #[.int .i64 X.lsn, .slice A1 n1 c1, .slice E1 m1 d1] 25)) := (Below.refl _ _).alloc (Nat.le_refl _) _; have L1 := Lib.hid (show Lies (w1.alloc (.cells #[.int .i64 X.lsn, .slice A1 n1 c1, .slice E1 m1 d1] 25)) X A1 n1 c1 E1 m1 d1 from (⟨s1, l1, k1, s1', l1', k1'⟩ : Lies w1 X A1 n1 c1 E1 m1 d1).after bw1); have T1 := Lib.hid (Blk.new (w := w1) (cs := #[.int .i64 X.lsn, .slice A1 n1 c1, .slice E1 m1 d1]) (t := 25) rfl rfl); have B1 := Lib.hid (below_next (below_next BPw.out bel1) bw1); have LY1 := Lib.hid ((LY.out.after bel1).after bw1); have TY1 := Lib.hid ((AT.out.after bel1).after bw1); obtain ⟨t0, t1, t2, tz⟩ := TY1.out.c3; have HN1 := Lib.hid s1.len; clear s1 s1' bel1)
            | (go_at_call 28; (with_reducible refine (batJoin_any (some ⟨w1.heap.size + 1, 0, none⟩) 1 1 [fullY p] ((w1.alloc (.cells #[.int .i64 X.lsn, .slice A1 n1 c1, .slice E1 m1 d1] 25)).alloc (.cells #[.int .i64 1, .slice none 0 0, .slice A5 p c5] 25)) (one_lies LY1.out HI1.out 25 (by simp) rfl) (by omega)).mono ?_); rintro e w2 ⟨A2, n2, c2, E2, m2, d2, rfl, s2, l2, k2, s2', l2', k2', bel2⟩; rw [← HZ.out] at s2 s2' ⊢; rw [← HEZ.out]; have bw0 : Below (w1.alloc (.cells #[.int .i64 X.lsn, .slice A1 n1 c1, .slice E1 m1 d1] 25)).heap.size (w1.alloc (.cells #[.int .i64 X.lsn, .slice A1 n1 c1, .slice E1 m1 d1] 25)) ((w1.alloc (.cells #[.int .i64 X.lsn, .slice A1 n1 c1, .slice E1 m1 d1] 25)).alloc (.cells #[.int .i64 1, .slice none 0 0, .slice A5 p c5] 25)) := (Below.refl _ _).alloc (Nat.le_refl _) _; have bw2 : Below w2.heap.size w2 (w2.alloc (.cells #[.int .i64 Z.lsn, .slice A2 n2 c2, .slice E2 m2 d2] 25)) := (Below.refl _ _).alloc (Nat.le_refl _) _; have L2 := Lib.hid (show Lies (w2.alloc (.cells #[.int .i64 Z.lsn, .slice A2 n2 c2, .slice E2 m2 d2] 25)) Z A2 n2 c2 E2 m2 d2 from (⟨s2, l2, k2, s2', l2', k2'⟩ : Lies w2 Z A2 n2 c2 E2 m2 d2).after bw2); have T2 := Lib.hid (Blk.new (w := w2) (cs := #[.int .i64 Z.lsn, .slice A2 n2 c2, .slice E2 m2 d2]) (t := 25) rfl rfl); have B2 := Lib.hid (below_next (below_next (below_next B1.out bw0) bel2) bw2); have LY2 := Lib.hid (((LY1.out.after bw0).after bel2).after bw2); have TY2 := Lib.hid (((TY1.out.after bw0).after bel2).after bw2); have T12 := Lib.hid (((T1.out.after bw0).after bel2).after bw2); have HN2 := Lib.hid s2'.len; clear s2 s2' bel2)
            | fail)
          obtain ⟨t0, t1, t2, tz⟩ := TY2.out.c3
          obtain ⟨x0, x1, x2, xz⟩ := T12.out.c3
          obtain ⟨z0, z1, z2, zz⟩ := T2.out.c3
          have hwK : IntKind.i64.wrap ((k : Int) * 64) = (k : Int) * 64 := IntWalk.i64_in _ (by omega)
          rcases hk64 with hk64 | hk64
          · obtain ⟨f1, f2⟩ := FJ.out.2 hk64
            rw [← HN1.out] at f2
            obtain rfl : eX = 0 := f1
            obtain rfl : n1 = 64 * k := f2
            have hkd : decide (4096 < (k : Int) * 64) = false := decide_eq_false (by omega)
            have hkd2 : decide ((k : Int) * 64 ≤ 4096) = true := decide_eq_true (by omega)
            rcases hp256 with hp256 | hp256
            · obtain ⟨g1, g2⟩ := HYJ.out.1 hp256
              rw [← HN2.out] at g2
              obtain rfl : eZ = 0 := g1
              obtain rfl : m2 = p := g2
              have hpd : decide (m2 ≤ 256) = true := decide_eq_true hp256
              have hpd2 : decide ((m2 : Int) ≤ 256) = true := decide_eq_true (by omega)
              rw [hpd] at HYM
              go_wp2_with (first
                | (go_at_call 15; (with_reducible refine (awake16 _).mono ?_); rintro e w3 ⟨rfl, bel3⟩; have B3 := Lib.hid (below_next B2.out bel3); have LY3 := Lib.hid (LY2.out.after bel3); obtain ⟨t0, t1, t2, tz⟩ := (TY2.out.after bel3).c3; obtain ⟨z0, z1, z2, zz⟩ := (T2.out.after bel3).c3; have HZ3 := Lib.hid (T2.out.after bel3); clear bel3)
                | (go_at_call 20; (with_reducible refine (fullMay_any m2 A5 c5 w3 LY3.out).mono ?_); rintro e w4 ⟨rfl, bel4⟩; rw [HYM.out]; have B4 := Lib.hid (below_next B3.out bel4); obtain ⟨z0, z1, z2, zz⟩ := (HZ3.out.after bel4).c3; clear bel4)
                | fail)
              go_ret
              exact ⟨rfl, B4.out⟩
            · have g1 := HYJ.out.2 hp256
              obtain rfl : eZ = 1 := g1
              have hpd : decide (p ≤ 256) = false := decide_eq_false (by omega)
              have hpd2 : decide ((p : Int) ≤ 256) = false := decide_eq_false (by omega)
              rw [hpd] at HYM
              go_wp2_with (first
                | (go_at_call 15; (with_reducible refine (awake16 _).mono ?_); rintro e w3 ⟨rfl, bel3⟩; have B3 := Lib.hid (below_next B2.out bel3); have LY3 := Lib.hid (LY2.out.after bel3); obtain ⟨t0, t1, t2, tz⟩ := (TY2.out.after bel3).c3; obtain ⟨z0, z1, z2, zz⟩ := (T2.out.after bel3).c3; have HZ3 := Lib.hid (T2.out.after bel3); clear bel3)
                | (go_at_call 20; (with_reducible refine (fullMay_any p A5 c5 w3 LY3.out).mono ?_); rintro e w4 ⟨rfl, bel4⟩; rw [HYM.out]; have B4 := Lib.hid (below_next B3.out bel4); obtain ⟨z0, z1, z2, zz⟩ := (HZ3.out.after bel4).c3; clear bel4)
                | fail)
              go_ret
              exact ⟨rfl, B4.out⟩
          · obtain ⟨f1, f2⟩ := FJ.out.1 hk64
            rw [← HN1.out] at f2
            obtain rfl : eX = 1 := f1
            obtain rfl : n1 = 0 := f2
            have hkd : decide (4096 < (k : Int) * 64) = true := decide_eq_true (by omega)
            have hkd2 : decide ((k : Int) * 64 ≤ 4096) = false := decide_eq_false (by omega)
            rcases hp256 with hp256 | hp256
            · obtain ⟨g1, g2⟩ := HYJ.out.1 hp256
              rw [← HN2.out] at g2
              obtain rfl : eZ = 0 := g1
              obtain rfl : m2 = p := g2
              have hpd : decide (m2 ≤ 256) = true := decide_eq_true hp256
              have hpd2 : decide ((m2 : Int) ≤ 256) = true := decide_eq_true (by omega)
              rw [hpd] at HYM
              go_wp2_with (first
                | (go_at_call 15; (with_reducible refine (awake16 _).mono ?_); rintro e w3 ⟨rfl, bel3⟩; have B3 := Lib.hid (below_next B2.out bel3); have LY3 := Lib.hid (LY2.out.after bel3); obtain ⟨t0, t1, t2, tz⟩ := (TY2.out.after bel3).c3; obtain ⟨z0, z1, z2, zz⟩ := (T2.out.after bel3).c3; have HZ3 := Lib.hid (T2.out.after bel3); clear bel3)
                | (go_at_call 20; (with_reducible refine (fullMay_any m2 A5 c5 w3 LY3.out).mono ?_); rintro e w4 ⟨rfl, bel4⟩; rw [HYM.out]; have B4 := Lib.hid (below_next B3.out bel4); obtain ⟨z0, z1, z2, zz⟩ := (HZ3.out.after bel4).c3; clear bel4)
                | fail)
              go_ret
              exact ⟨rfl, B4.out⟩
            · have g1 := HYJ.out.2 hp256
              obtain rfl : eZ = 1 := g1
              have hpd : decide (p ≤ 256) = false := decide_eq_false (by omega)
              have hpd2 : decide ((p : Int) ≤ 256) = false := decide_eq_false (by omega)
              rw [hpd] at HYM
              go_wp2_with (first
                | (go_at_call 15; (with_reducible refine (awake16 _).mono ?_); rintro e w3 ⟨rfl, bel3⟩; have B3 := Lib.hid (below_next B2.out bel3); have LY3 := Lib.hid (LY2.out.after bel3); obtain ⟨t0, t1, t2, tz⟩ := (TY2.out.after bel3).c3; obtain ⟨z0, z1, z2, zz⟩ := (T2.out.after bel3).c3; have HZ3 := Lib.hid (T2.out.after bel3); clear bel3)
                | (go_at_call 20; (with_reducible refine (fullMay_any p A5 c5 w3 LY3.out).mono ?_); rintro e w4 ⟨rfl, bel4⟩; rw [HYM.out]; have B4 := Lib.hid (below_next B3.out bel4); obtain ⟨z0, z1, z2, zz⟩ := (HZ3.out.after bel4).c3; clear bel4)
                | fail)
              go_ret
              exact ⟨rfl, B4.out⟩
end Go.Proofs.Ytcohheoahdbgmaa
