/- The walk of the law TxnLimits. -/
import Derived.Test.YtojjeogpggielaaTxnTW
import Derived.Test.YtojjeogpggielaaMake
set_option linter.unusedVariables false
set_option linter.unusedSimpArgs false
namespace Go.Proofs.Ytojjeogpggielaa
open Go.RowKit

/-- Where a case of the law has laid its transaction and its change. -/
structure LimAt (w W : World) (t : Txn) (A : Option Addr) (n c : Nat) (A2 : Option Addr) (n2 c2 : Nat) (v0 v1 v2 v3 : Value) : Prop where
  bel : Below w.heap.size w W
  ct : Blk W w.heap.size [.int .i64 t.lsn, .int .i64 t.kind, .slice A n c, .slice A2 n2 c2, .int .i64 t.mark]
  cc : Blk W (w.heap.size + 1) [v0, v1, v2, v3]
  s : IsSl chgRep W (· < W.heap.size) A n t.changes
  s2 : IsSl strRep W (· < W.heap.size) A2 n2 t.signals

theorem LimAt.next {w W W' : World} {t : Txn} {A : Option Addr} {n c : Nat} {A2 : Option Addr} {n2 c2 : Nat} {v0 v1 v2 v3 : Value} (h : LimAt w W t A n c A2 n2 c2 v0 v1 v2 v3) (hb : Below W.heap.size W W') : LimAt w W' t A n c A2 n2 c2 v0 v1 v2 v3 :=
  ⟨below_next h.bel hb, h.ct.after hb, h.cc.after hb, h.s.afterB hb, h.s2.afterB hb⟩

theorem LimAt.mk0 {w W : World} {t : Txn} {A : Option Addr} {n c : Nat} {A2 : Option Addr} {n2 c2 : Nat} {v0 v1 v2 v3 : Value}
    (hb : Below (w.heap.size + 2) ((w.alloc (.cells #[.int .i64 t.lsn, .int .i64 t.kind, .slice A n c, .slice A2 n2 c2, .int .i64 t.mark] 68)).alloc (.cells #[v0, v1, v2, v3] 53)) W)
    (s : IsSl chgRep W (· < W.heap.size) A n t.changes) (s2 : IsSl strRep W (· < W.heap.size) A2 n2 t.signals) : LimAt w W t A n c A2 n2 c2 v0 v1 v2 v3 := by
  have h1 := (Blk.new (w := w) (cs := #[.int .i64 t.lsn, .int .i64 t.kind, .slice A n c, .slice A2 n2 c2, .int .i64 t.mark]) (t := 68) rfl rfl).alloc (.cells #[v0, v1, v2, v3] 53)
  have h2 := Blk.new (w := w.alloc (.cells #[.int .i64 t.lsn, .int .i64 t.kind, .slice A n c, .slice A2 n2 c2, .int .i64 t.mark] 68)) (cs := #[v0, v1, v2, v3]) (t := 53) rfl (n := w.heap.size + 1) (by simp)
  exact ⟨(bw2 w _ _).trans (hb.mono (by omega)), h1.below hb (by omega), h2.below hb (by omega), s, s2⟩

def limE (dn : Nat) : Int := if dn < 2 then 0 else 1

theorem encTE_lim {t : Txn} {dn : Nat} (h : mayTxn t = decide (dn < 2)) : encTE t = limE dn := by
  unfold limE
  by_cases hd : dn < 2
  · rw [decide_eq_true hd] at h
    rw [if_pos hd]
    exact (decT_enc h).1
  · rw [decide_eq_false hd] at h
    rw [if_neg hd]
    unfold encTE
    rw [h]
    rfl

theorem limE_eq (dn : Nat) : (limE dn == 0) = decide (dn < 2) := by
  unfold limE
  by_cases hd : dn < 2
  · rw [if_pos hd, decide_eq_true hd]; rfl
  · rw [if_neg hd, decide_eq_false hd]; rfl

def zeros (m : Nat) : ByteArray := ⟨(List.replicate m (0 : UInt8)).toArray⟩
theorem zeros_size (m : Nat) : (zeros m).size = m := by unfold zeros; simp [ByteArray.size]

set_option maxRecDepth 100000 in
theorem run_zeros {w : World} {a m : Nat} (ha : a = w.heap.size) (hm : m ≤ 1000) :
    (convert 84 9 (.slice (some ⟨a, 0, none⟩) m m)).run Try.prog (w.alloc (.cells (madeCells #[.int .u8 0] m) 5)) = .ok (.string (zeros m)) (w.alloc (.cells (madeCells #[.int .u8 0] m) 5)) := by
  subst ha
  have ho := Own.made (R := byteRep) w (.int .u8 0) 0 m 5 rfl (fun _ _ => ⟨rfl, trivial⟩) (by unfold maxLen; omega)
  rw [show m * byteRep.size = m from Nat.mul_one m] at ho
  obtain ⟨_, _, hv, _, _, sl⟩ := ho.isSlB
  rw [List.length_replicate] at hv sl
  injection hv with hv1 _ _
  rw [← hv1] at sl
  unfold zeros
  exact run_str_of (c := m) 84 9 5 Try.underlying84 Try.underlying5 Try.underlying9 sl

/-- One change laid behind. -/
theorem one_chg {w : World} {a : Nat} {x : Chg} (ha : a = w.heap.size) (hw : x.wf) : IsSl chgRep (w.alloc (.cells #[.int .i64 x.table, .int .i64 x.key, .bool x.gone, .string x.val] 53)) (· < (w.alloc (.cells #[.int .i64 x.table, .int .i64 x.key, .bool x.gone, .string x.val] 53)).heap.size) (some ⟨a, 0, none⟩) 1 [x] := by
  subst ha
  exact IsSl.new1 (R := chgRep) (cs := [.int .i64 x.table, .int .i64 x.key, .bool x.gone, .string x.val]) ⟨rfl, hw⟩ (by simp)

theorem one_str {w : World} {a : Nat} {x : ByteArray} (ha : a = w.heap.size) (hw : x.size ≤ maxLen) : IsSl strRep (w.alloc (.cells #[.string x] 9)) (· < (w.alloc (.cells #[.string x] 9)).heap.size) (some ⟨a, 0, none⟩) 1 [x] := by
  subst ha
  exact IsSl.new1 (R := strRep) (cs := [.string x]) ⟨rfl, hw⟩ (by simp)

theorem made_str {w : World} {a m : Nat} (ha : a = w.heap.size) (hm : m ≤ 1000) : IsSl strRep (w.alloc (.cells (madeCells #[.string ByteArray.empty] m) 9)) (· < (w.alloc (.cells (madeCells #[.string ByteArray.empty] m) 9)).heap.size) (some ⟨a, 0, none⟩) m (List.replicate m ByteArray.empty) := by
  subst ha
  have ho := Own.made (R := strRep) w (.string ByteArray.empty) ByteArray.empty m 9 rfl (fun _ _ => ⟨rfl, by show 0 ≤ _; omega⟩) (by unfold maxLen; omega)
  rw [show m * strRep.size = m from Nat.mul_one m] at ho
  obtain ⟨_, _, hv, _, _, sl⟩ := ho.isSlB
  rw [List.length_replicate] at hv sl
  injection hv with hv1 _ _
  rw [← hv1] at sl
  exact sl

def chg0 : Chg := ⟨0, 0, false, ByteArray.empty⟩
def chg1 : Chg := ⟨0, 1, false, ⟨#[]⟩⟩
def fillC (m j : Nat) : List Chg := List.replicate j chg1 ++ List.replicate (m - j) chg0

theorem chg_wf {a b : Int} {g : Bool} {s : ByteArray} (ha : I64 a) (hb : I64 b) (hs : s.size ≤ maxLen) : (⟨a, b, g, s⟩ : Chg).wf := ⟨ha, hb, hs⟩
theorem chg0_wf : chg0.wf := chg_wf (by unfold I64; omega) (by unfold I64; omega) (by show 0 ≤ _; omega)
theorem chg1_wf : chg1.wf := chg_wf (by unfold I64; omega) (by unfold I64; omega) (by show 0 ≤ _; omega)

theorem fillC_at {m j : Nat} (h : j < m) : (fillC m j)[j]? = some chg0 := by
  unfold fillC
  rw [List.getElem?_append_right (by simp), List.length_replicate, Nat.sub_self, List.getElem?_replicate, if_pos (by omega)]
theorem fillC_set {m j : Nat} (h : j < m) : (fillC m j).set j chg1 = fillC m (j + 1) := by
  unfold fillC
  obtain ⟨d, hd⟩ : ∃ d, m - j = d + 1 := ⟨m - j - 1, by omega⟩
  rw [List.set_append_right _ _ (by simp), List.length_replicate, Nat.sub_self, hd, show m - (j + 1) = d by omega, List.replicate_succ, List.set_cons_zero, List.replicate_succ', List.append_assoc]
  rfl
theorem fillC_len {m j : Nat} (h : j ≤ m) : (fillC m j).length = m := by unfold fillC; simp; omega

theorem own_chg {w : World} {base g n cap k : Nat} {S : Nat → Prop} {e : TypeId} {l : List Chg} {x : Chg} (h : Own chgRep w base S e (.slice (some ⟨g, 0, none⟩) n cap) l) (hx : l[k]? = some x) (j : Nat) (hj : j < 4) :
    w.cell? ⟨g, k * 4 + j, none⟩ = x.cells[j]? ∧ w.frozen? ⟨g, k * 4 + j, none⟩ = false := by
  obtain ⟨cs, u, ⟨rfl, _⟩, hu, hc, hf⟩ := h.cellAt hx (j := j) hj
  exact ⟨hc.trans hu.symm, hf⟩
theorem flat_chg' : Flat chgRep := fun _ _ _ _ _ _ h => h
theorem own_chg_set {w : World} {base g n cap k : Nat} {S : Nat → Prop} {e : TypeId} {l : List Chg} {x y : Chg} {j : Nat} {u : Value} (h : Own chgRep w base S e (.slice (some ⟨g, 0, none⟩) n cap) l) (hx : l[k]? = some x) (hj : j < 4) (hy : y.cells = x.cells.set j u) (hw : y.wf) :
    Own chgRep (w.setCell ⟨g, k * 4 + j, none⟩ u) base S e (.slice (some ⟨g, 0, none⟩) n cap) (l.set k y) :=
  Own.store (cs := x.cells) flat_chg' h hx (by rintro cs ⟨rfl, _⟩; rfl) hj ⟨hy.symm, hw⟩

set_option maxRecDepth 100000 in
set_option maxHeartbeats 8000000 in
theorem txnLimits_walk (w : World) (n : Int) (_ : I64 n) (k : Int) (_ : I64 k) (gone : Bool) :
    Calls Try.prog 14 #[.int .i64 n, .int .i64 k, .bool gone] w fun e w' => e = .returned (.bool true) ∧ Below w.heap.size w w' := by
  have hn := modOf_range n 3 (by omega)
  have hk := modOf_range k 7 (by omega)
  obtain ⟨dn, hdn⟩ := Int.eq_ofNat_of_zero_le hn.1
  obtain ⟨kn, hkn⟩ := Int.eq_ofNat_of_zero_le hk.1
  rw [hdn] at hn
  rw [hkn] at hk
  have HD := Lib.hid hdn
  have HK := Lib.hid hkn
  have hd3 : dn < 3 := by omega
  have hk7 : kn < 7 := by omega
  have hE0 := limE_eq dn
  have hdl : decide ((dn : Int) - 1 < 1) = decide (dn < 2) := decide_eq_decide.2 (by omega)
  have MC1 := Lib.hid (show mayChg ⟨0, 1, gone, ⟨#[118]⟩⟩ 1 = !gone by cases gone <;> decide +kernel)
  have MC2 := Lib.hid (show mayChg ⟨0, 1, false, ⟨#[]⟩⟩ 0 = false by decide +kernel)
  have MC3 := Lib.hid (show mayChg ⟨0, 0, false, ⟨#[]⟩⟩ 1 = false by decide +kernel)
  obtain ⟨i0, hi, hz0, hz1, hz2⟩ := info_parts info_byte
  obtain ⟨i1, hi1, hy0, hy1, hy2⟩ := info_parts info_chg
  obtain ⟨i2, hi2, hx0, hx1, hx2⟩ := info_parts info_str
  have hmc := fun W : World => run_make_own (P := Try.prog) 22 53 i1 _ 4 40 Try.underlying22 hi1 hy0 hy1 hy2 .i64 .i64 (15 + dn) (16 + ((dn : Int) - 1)) (by omega) (by omega) (by omega) W
  have hms := fun W : World => run_make_own (P := Try.prog) 66 9 i2 _ 1 16 Try.underlying66 hi2 hx0 hx1 hx2 .i64 .i64 (1 + dn) (2 + ((dn : Int) - 1)) (by omega) (by omega) (by omega) W
  have hmb := fun W : World => run_make_own (P := Try.prog) 84 5 i0 _ 1 1 Try.underlying84 hi hz0 hz1 hz2 .i64 .i64 (31 + dn) (32 + ((dn : Int) - 1)) (by omega) (by omega) (by omega) W
  have hmg := fun W : World => run_make_own (P := Try.prog) 84 5 i0 _ 1 1 Try.underlying84 hi hz0 hz1 hz2 .i64 .i64 (39 + dn) (40 + ((dn : Int) - 1)) (by omega) (by omega) (by omega) W
  clear hdn hkn hn hk
  rcases (show kn = 0 ∨ kn = 1 ∨ kn = 2 ∨ kn = 3 ∨ kn = 4 ∨ kn = 5 ∨ kn = 6 by omega) with rfl | rfl | rfl | rfl | rfl | rfl | rfl
  · have HM := Lib.hid (show mayTxn ⟨1, 1, List.replicate (15 + dn) chg1, [], 0⟩ = decide (dn < 2) by rcases (show dn = 0 ∨ dn = 1 ∨ dn = 2 by omega) with rfl | rfl | rfl <;> decide +kernel)
    have HE := Lib.hid (encTE_lim HM.out)
    have HWF := Lib.hid (show I64 1 ∧ I64 1 ∧ I64 0 from ⟨by unfold I64; omega, by unfold I64; omega, by unfold I64; omega⟩)
    go_enter Try.func14, Try.ntmps14
    go_wp2_with (first
      | (go_at_call 15; (with_reducible refine (mod_any n 3 _ (by omega) (by omega)).mono ?_); rintro e w' ⟨rfl, rfl⟩; rw [HD.out])
      | (go_at_call 15; (with_reducible refine (mod_any k 7 _ (by omega) (by omega)).mono ?_); rintro e w' ⟨rfl, rfl⟩; rw [HK.out])
      | fail)
    obtain ⟨m, hm⟩ : ∃ m, m = 15 + dn := ⟨_, rfl⟩
    have hm1 : m ≤ 17 := by omega
    obtain ⟨W, hW⟩ : ∃ W, W = (((w.alloc (.cells #[.int .i64 1, .int .i64 1, .slice (some ⟨w.heap.size + 1 + 1, 0, none⟩) (15 + dn) (15 + dn), .slice none 0 0, .int .i64 0] 68)).alloc (.cells #[.int .i64 0, .int .i64 1, .bool false, .string ⟨#[]⟩] 53)).alloc (.cells (madeCells #[.int .i64 0, .int .i64 0, .bool false, .string ByteArray.empty] ((15 + dn) * 4)) 53)) := ⟨_, rfl⟩
    have BW : Below (w.heap.size + 2) ((w.alloc (.cells #[.int .i64 1, .int .i64 1, .slice (some ⟨w.heap.size + 1 + 1, 0, none⟩) (15 + dn) (15 + dn), .slice none 0 0, .int .i64 0] 68)).alloc (.cells #[.int .i64 0, .int .i64 1, .bool false, .string ⟨#[]⟩] 53)) W := by rw [hW]; exact (Below.refl _ _).alloc (by simp) _
    have own0 : Own chgRep W (w.heap.size + 1 + 1) (fun _ => False) 53 (.slice (some ⟨w.heap.size + 1 + 1, 0, none⟩) m m) (fillC m 0) := by
      have ho := Own.made (R := chgRep) ((w.alloc (.cells #[.int .i64 1, .int .i64 1, .slice (some ⟨w.heap.size + 1 + 1, 0, none⟩) (15 + dn) (15 + dn), .slice none 0 0, .int .i64 0] 68)).alloc (.cells #[.int .i64 0, .int .i64 1, .bool false, .string ⟨#[]⟩] 53)) (.agg #[.int .i64 0, .int .i64 0, .bool false, .string ByteArray.empty]) chg0 m 53 rfl (fun _ _ => ⟨rfl, chg0_wf⟩) (by unfold maxLen; omega)
      rw [show (((w.alloc (.cells #[.int .i64 1, .int .i64 1, .slice (some ⟨w.heap.size + 1 + 1, 0, none⟩) (15 + dn) (15 + dn), .slice none 0 0, .int .i64 0] 68)).alloc (.cells #[.int .i64 0, .int .i64 1, .bool false, .string ⟨#[]⟩] 53))).heap.size = w.heap.size + 1 + 1 by simp] at ho
      rw [hW, show fillC m 0 = List.replicate m chg0 by unfold fillC; simp]
      rw [hm] at ho ⊢
      exact ho
    rw [← hW]
    rw [← hm] at BW HM HE ⊢
    have HM' := Lib.hid hm
    clear hW hmc hms hmb hmg hm
    go_loopw [10] (fun i wr => ∃ j : Nat, i = .int .i64 j ∧ j ≤ m ∧ Own chgRep wr (w.heap.size + 1 + 1) (fun _ => False) 53 (.slice (some ⟨w.heap.size + 1 + 1, 0, none⟩) m m) (fillC m j) ∧ Below (w.heap.size + 2) ((w.alloc (.cells #[.int .i64 1, .int .i64 1, .slice (some ⟨w.heap.size + 1 + 1, 0, none⟩) m m, .slice none 0 0, .int .i64 0] 68)).alloc (.cells #[.int .i64 0, .int .i64 1, .bool false, .string ⟨#[]⟩] 53)) wr) (fun i _ => m - (intOf i).toNat)
    case atStart => exact ⟨0, rfl, Nat.zero_le _, own0, BW⟩
    case round =>
      obtain ⟨j, rfl, hj, hown, hbel⟩ := hrel
      have HO := Lib.hid hown
      have sl0 : IsSl chgRep wr (· < wr.heap.size) (some ⟨w.heap.size + 1 + 1, 0, none⟩) m (fillC m j) := by
        obtain ⟨_, _, hv, _, _, sl⟩ := hown.isSlB
        rw [fillC_len hj] at hv sl
        injection hv with hv1 _ _
        rw [← hv1] at sl
        exact sl
      have LA0 := LimAt.mk0 (t := ⟨1, 1, fillC m j, [], 0⟩) hbel sl0 IsSl.nil
      obtain ⟨t0, t1, t2, t3, t4, tz⟩ := LA0.ct.c5
      obtain ⟨q0, q1, q2, q3, qz⟩ := LA0.cc.c4
      clear hown own0 BW sl0
      by_cases hlt : j < m
      · have f0 : wr.cell? ⟨w.heap.size + 1 + 1, j * 4, none⟩ = some (.int .i64 0) := (own_chg HO.out (fillC_at hlt) 0 (by omega)).1
        have f1 : wr.cell? ⟨w.heap.size + 1 + 1, j * 4 + 1, none⟩ = some (.int .i64 0) := (own_chg HO.out (fillC_at hlt) 1 (by omega)).1
        have f2 : wr.cell? ⟨w.heap.size + 1 + 1, j * 4 + 2, none⟩ = some (.bool false) := (own_chg HO.out (fillC_at hlt) 2 (by omega)).1
        have f3 : wr.cell? ⟨w.heap.size + 1 + 1, j * 4 + 3, none⟩ = some (.string ByteArray.empty) := (own_chg HO.out (fillC_at hlt) 3 (by omega)).1
        have z0 : wr.frozen? ⟨w.heap.size + 1 + 1, j * 4, none⟩ = false := (own_chg HO.out (fillC_at hlt) 0 (by omega)).2
        have z1 := (own_chg HO.out (fillC_at hlt) 1 (by omega)).2
        have z2 := (own_chg HO.out (fillC_at hlt) 2 (by omega)).2
        have z3 := (own_chg HO.out (fillC_at hlt) 3 (by omega)).2
        go_wp2
        go_roundw
        case rel =>
          have o1 := own_chg_set (j := 0) (y := chg0) (u := .int .i64 0) HO.out (fillC_at hlt) (by omega) rfl chg0_wf
          have e0 : ((fillC m j).set j chg0)[j]? = some chg0 := List.getElem?_set_self (by rw [fillC_len hj]; exact hlt)
          have o2 := own_chg_set (j := 1) (y := chg1) (u := .int .i64 1) o1 e0 (by omega) rfl chg1_wf
          rw [List.set_set] at o2
          have e1 : ((fillC m j).set j chg1)[j]? = some chg1 := List.getElem?_set_self (by rw [fillC_len hj]; exact hlt)
          have o3 := own_chg_set (j := 2) (y := chg1) (u := .bool false) o2 e1 (by omega) rfl chg1_wf
          rw [List.set_set] at o3
          have o4 := own_chg_set (j := 3) (y := chg1) (u := .string ⟨#[]⟩) o3 e1 (by omega) rfl chg1_wf
          rw [List.set_set, fillC_set hlt] at o4
          exact ⟨j + 1, by go_num, by omega, o4, (((hbel.setCell (Nat.le_refl _) _).setCell (Nat.le_refl _) _).setCell (Nat.le_refl _) _).setCell (Nat.le_refl _) _⟩
        case measure => simp [intOf]; omega
      · obtain rfl : j = m := by omega
        rw [show fillC j j = List.replicate j chg1 by unfold fillC; rw [Nat.sub_self]; simp] at LA0
        have LA := Lib.hid LA0
        have hjj : decide ((j : Int) < (j : Int)) = false := by simp
        clear LA0
        go_wp2_with (first
      | (go_at_call 45; (with_reducible refine (txnEncode_any ⟨1, 1, List.replicate j chg1, [], 0⟩ (some ⟨w.heap.size + 1 + 1, 0, none⟩) j j none 0 0 _ LA.out.s LA.out.s2 HWF.out).mono ?_); rintro e w2 ⟨v2, rfl, own2, bel2⟩; rw [HE.out]; obtain ⟨Ab, cb, rfl, _, _, _⟩ := own2.isSlB; have LB := Lib.hid (LA.out.next bel2); clear own2 bel2)
      | (go_at_call 44; (with_reducible refine (awake07_any _).mono ?_); rintro e w3 ⟨rfl, bel3⟩; have LC := Lib.hid (LB.out.next bel3); obtain ⟨t0, t1, t2, t3, t4, tz⟩ := LC.out.ct.c5; clear bel3)
      | (go_at_call 47; (with_reducible refine (may_any ⟨1, 1, List.replicate j chg1, [], 0⟩ (some ⟨w.heap.size + 1 + 1, 0, none⟩) j j none 0 0 _ LC.out.s LC.out.s2).mono ?_); rintro e w4 ⟨rfl, bel4⟩; rw [HM.out]; have LD := Lib.hid (LC.out.next bel4); obtain ⟨q0, q1, q2, q3, qz⟩ := LD.out.cc.c4; clear bel4)
      | (go_at_call 50; (with_reducible refine (mayChange_any ⟨0, 1, gone, ⟨#[118]⟩⟩ 1 _).mono ?_); rintro e w5 ⟨rfl, bel5⟩; rw [MC1.out]; have B5 := Lib.hid (below_next ((((LD.out.bel.setCell (p := ⟨w.heap.size + 1, 0, none⟩) (by simp) _).setCell (p := ⟨w.heap.size + 1, 1, none⟩) (by simp) _).setCell (p := ⟨w.heap.size + 1, 2, none⟩) (by simp) _).setCell (p := ⟨w.heap.size + 1, 3, none⟩) (by simp) _) bel5); clear bel5)
      | (go_at_call 50; (with_reducible refine (mayChange_any ⟨0, 1, false, ⟨#[]⟩⟩ 0 _).mono ?_); rintro e w6 ⟨rfl, bel6⟩; rw [MC2.out]; have B6 := Lib.hid (below_next B5.out bel6); clear bel6)
      | (go_at_call 50; (with_reducible refine (mayChange_any ⟨0, 0, false, ⟨#[]⟩⟩ 1 _).mono ?_); rintro e w7 ⟨rfl, bel7⟩; rw [MC3.out]; have B7 := Lib.hid (below_next B6.out bel7); clear bel7)
      | fail)
        go_ret
        exact ⟨rfl, B7.out⟩
  · have HM := Lib.hid (show mayTxn ⟨1, 1, [], List.replicate (1 + dn) ByteArray.empty, 0⟩ = decide (dn < 2) by rcases (show dn = 0 ∨ dn = 1 ∨ dn = 2 by omega) with rfl | rfl | rfl <;> decide +kernel)
    have HE := Lib.hid (encTE_lim HM.out)
    have HWF := Lib.hid (show I64 1 ∧ I64 1 ∧ I64 0 from ⟨by unfold I64; omega, by unfold I64; omega, by unfold I64; omega⟩)
    have LA := Lib.hid (show LimAt w (((w.alloc (.cells #[.int .i64 1, .int .i64 1, .slice none 0 0, .slice (some ⟨w.heap.size + 1 + 1, 0, none⟩) (1 + dn) (1 + dn), .int .i64 0] 68)).alloc (.cells #[.int .i64 0, .int .i64 1, .bool false, .string ⟨#[]⟩] 53)).alloc (.cells (madeCells #[.string ByteArray.empty] (1 + dn)) 9)) ⟨1, 1, [], List.replicate (1 + dn) ByteArray.empty, 0⟩ none 0 0 (some ⟨w.heap.size + 1 + 1, 0, none⟩) (1 + dn) (1 + dn) (.int .i64 0) (.int .i64 1) (.bool false) (.string ⟨#[]⟩) from LimAt.mk0 ((Below.refl _ _).alloc (by simp) _) IsSl.nil (made_str (by simp) (by omega)))
    go_enter Try.func14, Try.ntmps14
    go_wp2_with (first
      | (go_at_call 15; (with_reducible refine (mod_any n 3 _ (by omega) (by omega)).mono ?_); rintro e w' ⟨rfl, rfl⟩; rw [HD.out])
      | (go_at_call 15; (with_reducible refine (mod_any k 7 _ (by omega) (by omega)).mono ?_); rintro e w' ⟨rfl, rfl⟩; rw [HK.out])
      | (go_at_call 45; (with_reducible refine (txnEncode_any ⟨1, 1, [], List.replicate (1 + dn) ByteArray.empty, 0⟩ none 0 0 (some ⟨w.heap.size + 1 + 1, 0, none⟩) (1 + dn) (1 + dn) _ LA.out.s LA.out.s2 HWF.out).mono ?_); rintro e w2 ⟨v2, rfl, own2, bel2⟩; rw [HE.out]; obtain ⟨Ab, cb, rfl, _, _, _⟩ := own2.isSlB; have LB := Lib.hid (LA.out.next bel2); clear own2 bel2)
      | (go_at_call 44; (with_reducible refine (awake07_any _).mono ?_); rintro e w3 ⟨rfl, bel3⟩; have LC := Lib.hid (LB.out.next bel3); obtain ⟨t0, t1, t2, t3, t4, tz⟩ := LC.out.ct.c5; clear bel3)
      | (go_at_call 47; (with_reducible refine (may_any ⟨1, 1, [], List.replicate (1 + dn) ByteArray.empty, 0⟩ none 0 0 (some ⟨w.heap.size + 1 + 1, 0, none⟩) (1 + dn) (1 + dn) _ LC.out.s LC.out.s2).mono ?_); rintro e w4 ⟨rfl, bel4⟩; rw [HM.out]; have LD := Lib.hid (LC.out.next bel4); obtain ⟨q0, q1, q2, q3, qz⟩ := LD.out.cc.c4; clear bel4)
      | (go_at_call 50; (with_reducible refine (mayChange_any ⟨0, 1, gone, ⟨#[118]⟩⟩ 1 _).mono ?_); rintro e w5 ⟨rfl, bel5⟩; rw [MC1.out]; have B5 := Lib.hid (below_next ((((LD.out.bel.setCell (p := ⟨w.heap.size + 1, 0, none⟩) (by simp) _).setCell (p := ⟨w.heap.size + 1, 1, none⟩) (by simp) _).setCell (p := ⟨w.heap.size + 1, 2, none⟩) (by simp) _).setCell (p := ⟨w.heap.size + 1, 3, none⟩) (by simp) _) bel5); clear bel5)
      | (go_at_call 50; (with_reducible refine (mayChange_any ⟨0, 1, false, ⟨#[]⟩⟩ 0 _).mono ?_); rintro e w6 ⟨rfl, bel6⟩; rw [MC2.out]; have B6 := Lib.hid (below_next B5.out bel6); clear bel6)
      | (go_at_call 50; (with_reducible refine (mayChange_any ⟨0, 0, false, ⟨#[]⟩⟩ 1 _).mono ?_); rintro e w7 ⟨rfl, bel7⟩; rw [MC3.out]; have B7 := Lib.hid (below_next B6.out bel7); clear bel7)
      | fail)
    go_ret
    exact ⟨rfl, B7.out⟩
  · have HM := Lib.hid (show mayTxn ⟨1, 1, [⟨0, 1, false, (zeros (31 + dn))⟩], [], 0⟩ = decide (dn < 2) by rcases (show dn = 0 ∨ dn = 1 ∨ dn = 2 by omega) with rfl | rfl | rfl <;> decide +kernel)
    have HE := Lib.hid (encTE_lim HM.out)
    have HWF := Lib.hid (show I64 1 ∧ I64 1 ∧ I64 0 from ⟨by unfold I64; omega, by unfold I64; omega, by unfold I64; omega⟩)
    have LA := Lib.hid (show LimAt w ((((w.alloc (.cells #[.int .i64 1, .int .i64 1, .slice (some ⟨w.heap.size + 1 + 1 + 1, 0, none⟩) 1 1, .slice none 0 0, .int .i64 0] 68)).alloc (.cells #[.int .i64 0, .int .i64 1, .bool false, .string (zeros (31 + dn))] 53)).alloc (.cells (madeCells #[.int .u8 0] (31 + dn)) 5)).alloc (.cells #[.int .i64 0, .int .i64 1, .bool false, .string (zeros (31 + dn))] 53)) ⟨1, 1, [⟨0, 1, false, (zeros (31 + dn))⟩], [], 0⟩ (some ⟨w.heap.size + 1 + 1 + 1, 0, none⟩) 1 1 none 0 0 (.int .i64 0) (.int .i64 1) (.bool false) (.string (zeros (31 + dn))) from LimAt.mk0 (((Below.refl _ _).alloc (by simp) _).alloc (by simp) _) (one_chg (x := ⟨0, 1, false, (zeros (31 + dn))⟩) (by simp) (chg_wf (by unfold I64; omega) (by unfold I64; omega) (by rw [zeros_size]; unfold maxLen; omega))) IsSl.nil)
    have hcv := run_zeros (w := (w.alloc (.cells #[.int .i64 1, .int .i64 1, .slice none 0 0, .slice none 0 0, .int .i64 0] 68)).alloc (.cells #[.int .i64 0, .int .i64 1, .bool false, .string ⟨#[]⟩] 53)) (a := w.heap.size + 1 + 1) (m := 31 + dn) (by simp) (by omega)
    go_enter Try.func14, Try.ntmps14
    go_wp2_with (first
      | (go_at_call 15; (with_reducible refine (mod_any n 3 _ (by omega) (by omega)).mono ?_); rintro e w' ⟨rfl, rfl⟩; rw [HD.out])
      | (go_at_call 15; (with_reducible refine (mod_any k 7 _ (by omega) (by omega)).mono ?_); rintro e w' ⟨rfl, rfl⟩; rw [HK.out])
      | (go_at_call 45; (with_reducible refine (txnEncode_any ⟨1, 1, [⟨0, 1, false, (zeros (31 + dn))⟩], [], 0⟩ (some ⟨w.heap.size + 1 + 1 + 1, 0, none⟩) 1 1 none 0 0 _ LA.out.s LA.out.s2 HWF.out).mono ?_); rintro e w2 ⟨v2, rfl, own2, bel2⟩; rw [HE.out]; obtain ⟨Ab, cb, rfl, _, _, _⟩ := own2.isSlB; have LB := Lib.hid (LA.out.next bel2); clear own2 bel2)
      | (go_at_call 44; (with_reducible refine (awake07_any _).mono ?_); rintro e w3 ⟨rfl, bel3⟩; have LC := Lib.hid (LB.out.next bel3); obtain ⟨t0, t1, t2, t3, t4, tz⟩ := LC.out.ct.c5; clear bel3)
      | (go_at_call 47; (with_reducible refine (may_any ⟨1, 1, [⟨0, 1, false, (zeros (31 + dn))⟩], [], 0⟩ (some ⟨w.heap.size + 1 + 1 + 1, 0, none⟩) 1 1 none 0 0 _ LC.out.s LC.out.s2).mono ?_); rintro e w4 ⟨rfl, bel4⟩; rw [HM.out]; have LD := Lib.hid (LC.out.next bel4); obtain ⟨q0, q1, q2, q3, qz⟩ := LD.out.cc.c4; clear bel4)
      | (go_at_call 50; (with_reducible refine (mayChange_any ⟨0, 1, gone, ⟨#[118]⟩⟩ 1 _).mono ?_); rintro e w5 ⟨rfl, bel5⟩; rw [MC1.out]; have B5 := Lib.hid (below_next ((((LD.out.bel.setCell (p := ⟨w.heap.size + 1, 0, none⟩) (by simp) _).setCell (p := ⟨w.heap.size + 1, 1, none⟩) (by simp) _).setCell (p := ⟨w.heap.size + 1, 2, none⟩) (by simp) _).setCell (p := ⟨w.heap.size + 1, 3, none⟩) (by simp) _) bel5); clear bel5)
      | (go_at_call 50; (with_reducible refine (mayChange_any ⟨0, 1, false, ⟨#[]⟩⟩ 0 _).mono ?_); rintro e w6 ⟨rfl, bel6⟩; rw [MC2.out]; have B6 := Lib.hid (below_next B5.out bel6); clear bel6)
      | (go_at_call 50; (with_reducible refine (mayChange_any ⟨0, 0, false, ⟨#[]⟩⟩ 1 _).mono ?_); rintro e w7 ⟨rfl, bel7⟩; rw [MC3.out]; have B7 := Lib.hid (below_next B6.out bel7); clear bel7)
      | fail)
    go_ret
    exact ⟨rfl, B7.out⟩
  · have HM := Lib.hid (show mayTxn ⟨1, 1, [], [(zeros (39 + dn))], 0⟩ = decide (dn < 2) by rcases (show dn = 0 ∨ dn = 1 ∨ dn = 2 by omega) with rfl | rfl | rfl <;> decide +kernel)
    have HE := Lib.hid (encTE_lim HM.out)
    have HWF := Lib.hid (show I64 1 ∧ I64 1 ∧ I64 0 from ⟨by unfold I64; omega, by unfold I64; omega, by unfold I64; omega⟩)
    have LA := Lib.hid (show LimAt w ((((w.alloc (.cells #[.int .i64 1, .int .i64 1, .slice none 0 0, .slice (some ⟨w.heap.size + 1 + 1 + 1, 0, none⟩) 1 1, .int .i64 0] 68)).alloc (.cells #[.int .i64 0, .int .i64 1, .bool false, .string ⟨#[]⟩] 53)).alloc (.cells (madeCells #[.int .u8 0] (39 + dn)) 5)).alloc (.cells #[.string (zeros (39 + dn))] 9)) ⟨1, 1, [], [(zeros (39 + dn))], 0⟩ none 0 0 (some ⟨w.heap.size + 1 + 1 + 1, 0, none⟩) 1 1 (.int .i64 0) (.int .i64 1) (.bool false) (.string ⟨#[]⟩) from LimAt.mk0 (((Below.refl _ _).alloc (by simp) _).alloc (by simp) _) IsSl.nil (one_str (x := (zeros (39 + dn))) (by simp) (by rw [zeros_size]; unfold maxLen; omega)))
    have hcv := run_zeros (w := (w.alloc (.cells #[.int .i64 1, .int .i64 1, .slice none 0 0, .slice none 0 0, .int .i64 0] 68)).alloc (.cells #[.int .i64 0, .int .i64 1, .bool false, .string ⟨#[]⟩] 53)) (a := w.heap.size + 1 + 1) (m := 39 + dn) (by simp) (by omega)
    go_enter Try.func14, Try.ntmps14
    go_wp2_with (first
      | (go_at_call 15; (with_reducible refine (mod_any n 3 _ (by omega) (by omega)).mono ?_); rintro e w' ⟨rfl, rfl⟩; rw [HD.out])
      | (go_at_call 15; (with_reducible refine (mod_any k 7 _ (by omega) (by omega)).mono ?_); rintro e w' ⟨rfl, rfl⟩; rw [HK.out])
      | (go_at_call 45; (with_reducible refine (txnEncode_any ⟨1, 1, [], [(zeros (39 + dn))], 0⟩ none 0 0 (some ⟨w.heap.size + 1 + 1 + 1, 0, none⟩) 1 1 _ LA.out.s LA.out.s2 HWF.out).mono ?_); rintro e w2 ⟨v2, rfl, own2, bel2⟩; rw [HE.out]; obtain ⟨Ab, cb, rfl, _, _, _⟩ := own2.isSlB; have LB := Lib.hid (LA.out.next bel2); clear own2 bel2)
      | (go_at_call 44; (with_reducible refine (awake07_any _).mono ?_); rintro e w3 ⟨rfl, bel3⟩; have LC := Lib.hid (LB.out.next bel3); obtain ⟨t0, t1, t2, t3, t4, tz⟩ := LC.out.ct.c5; clear bel3)
      | (go_at_call 47; (with_reducible refine (may_any ⟨1, 1, [], [(zeros (39 + dn))], 0⟩ none 0 0 (some ⟨w.heap.size + 1 + 1 + 1, 0, none⟩) 1 1 _ LC.out.s LC.out.s2).mono ?_); rintro e w4 ⟨rfl, bel4⟩; rw [HM.out]; have LD := Lib.hid (LC.out.next bel4); obtain ⟨q0, q1, q2, q3, qz⟩ := LD.out.cc.c4; clear bel4)
      | (go_at_call 50; (with_reducible refine (mayChange_any ⟨0, 1, gone, ⟨#[118]⟩⟩ 1 _).mono ?_); rintro e w5 ⟨rfl, bel5⟩; rw [MC1.out]; have B5 := Lib.hid (below_next ((((LD.out.bel.setCell (p := ⟨w.heap.size + 1, 0, none⟩) (by simp) _).setCell (p := ⟨w.heap.size + 1, 1, none⟩) (by simp) _).setCell (p := ⟨w.heap.size + 1, 2, none⟩) (by simp) _).setCell (p := ⟨w.heap.size + 1, 3, none⟩) (by simp) _) bel5); clear bel5)
      | (go_at_call 50; (with_reducible refine (mayChange_any ⟨0, 1, false, ⟨#[]⟩⟩ 0 _).mono ?_); rintro e w6 ⟨rfl, bel6⟩; rw [MC2.out]; have B6 := Lib.hid (below_next B5.out bel6); clear bel6)
      | (go_at_call 50; (with_reducible refine (mayChange_any ⟨0, 0, false, ⟨#[]⟩⟩ 1 _).mono ?_); rintro e w7 ⟨rfl, bel7⟩; rw [MC3.out]; have B7 := Lib.hid (below_next B6.out bel7); clear bel7)
      | fail)
    go_ret
    exact ⟨rfl, B7.out⟩
  · have HM := Lib.hid (show mayTxn ⟨1, 1, [⟨0, (1099511627776 + ((dn : Int) - 1)), false, ⟨#[]⟩⟩], [], 0⟩ = decide (dn < 2) by rcases (show dn = 0 ∨ dn = 1 ∨ dn = 2 by omega) with rfl | rfl | rfl <;> decide +kernel)
    have HE := Lib.hid (encTE_lim HM.out)
    have HWF := Lib.hid (show I64 1 ∧ I64 1 ∧ I64 0 from ⟨by unfold I64; omega, by unfold I64; omega, by unfold I64; omega⟩)
    have LA := Lib.hid (show LimAt w (((w.alloc (.cells #[.int .i64 1, .int .i64 1, .slice (some ⟨w.heap.size + 1 + 1, 0, none⟩) 1 1, .slice none 0 0, .int .i64 0] 68)).alloc (.cells #[.int .i64 0, .int .i64 (1099511627776 + ((dn : Int) - 1)), .bool false, .string ⟨#[]⟩] 53)).alloc (.cells #[.int .i64 0, .int .i64 (1099511627776 + ((dn : Int) - 1)), .bool false, .string ⟨#[]⟩] 53)) ⟨1, 1, [⟨0, (1099511627776 + ((dn : Int) - 1)), false, ⟨#[]⟩⟩], [], 0⟩ (some ⟨w.heap.size + 1 + 1, 0, none⟩) 1 1 none 0 0 (.int .i64 0) (.int .i64 (1099511627776 + ((dn : Int) - 1))) (.bool false) (.string ⟨#[]⟩) from LimAt.mk0 ((Below.refl _ _).alloc (by simp) _) (one_chg (x := ⟨0, (1099511627776 + ((dn : Int) - 1)), false, ⟨#[]⟩⟩) (by simp) (chg_wf (by unfold I64; omega) (by unfold I64; omega) (by show 0 ≤ _; omega))) IsSl.nil)
    go_enter Try.func14, Try.ntmps14
    go_wp2_with (first
      | (go_at_call 15; (with_reducible refine (mod_any n 3 _ (by omega) (by omega)).mono ?_); rintro e w' ⟨rfl, rfl⟩; rw [HD.out])
      | (go_at_call 15; (with_reducible refine (mod_any k 7 _ (by omega) (by omega)).mono ?_); rintro e w' ⟨rfl, rfl⟩; rw [HK.out])
      | (go_at_call 45; (with_reducible refine (txnEncode_any ⟨1, 1, [⟨0, (1099511627776 + ((dn : Int) - 1)), false, ⟨#[]⟩⟩], [], 0⟩ (some ⟨w.heap.size + 1 + 1, 0, none⟩) 1 1 none 0 0 _ LA.out.s LA.out.s2 HWF.out).mono ?_); rintro e w2 ⟨v2, rfl, own2, bel2⟩; rw [HE.out]; obtain ⟨Ab, cb, rfl, _, _, _⟩ := own2.isSlB; have LB := Lib.hid (LA.out.next bel2); clear own2 bel2)
      | (go_at_call 44; (with_reducible refine (awake07_any _).mono ?_); rintro e w3 ⟨rfl, bel3⟩; have LC := Lib.hid (LB.out.next bel3); obtain ⟨t0, t1, t2, t3, t4, tz⟩ := LC.out.ct.c5; clear bel3)
      | (go_at_call 47; (with_reducible refine (may_any ⟨1, 1, [⟨0, (1099511627776 + ((dn : Int) - 1)), false, ⟨#[]⟩⟩], [], 0⟩ (some ⟨w.heap.size + 1 + 1, 0, none⟩) 1 1 none 0 0 _ LC.out.s LC.out.s2).mono ?_); rintro e w4 ⟨rfl, bel4⟩; rw [HM.out]; have LD := Lib.hid (LC.out.next bel4); obtain ⟨q0, q1, q2, q3, qz⟩ := LD.out.cc.c4; clear bel4)
      | (go_at_call 50; (with_reducible refine (mayChange_any ⟨0, 1, gone, ⟨#[118]⟩⟩ 1 _).mono ?_); rintro e w5 ⟨rfl, bel5⟩; rw [MC1.out]; have B5 := Lib.hid (below_next ((((LD.out.bel.setCell (p := ⟨w.heap.size + 1, 0, none⟩) (by simp) _).setCell (p := ⟨w.heap.size + 1, 1, none⟩) (by simp) _).setCell (p := ⟨w.heap.size + 1, 2, none⟩) (by simp) _).setCell (p := ⟨w.heap.size + 1, 3, none⟩) (by simp) _) bel5); clear bel5)
      | (go_at_call 50; (with_reducible refine (mayChange_any ⟨0, 1, false, ⟨#[]⟩⟩ 0 _).mono ?_); rintro e w6 ⟨rfl, bel6⟩; rw [MC2.out]; have B6 := Lib.hid (below_next B5.out bel6); clear bel6)
      | (go_at_call 50; (with_reducible refine (mayChange_any ⟨0, 0, false, ⟨#[]⟩⟩ 1 _).mono ?_); rintro e w7 ⟨rfl, bel7⟩; rw [MC3.out]; have B7 := Lib.hid (below_next B6.out bel7); clear bel7)
      | fail)
    go_ret
    exact ⟨rfl, B7.out⟩
  · have HM := Lib.hid (show mayTxn ⟨1, 1, [⟨(7 + ((dn : Int) - 1)), 1, false, ⟨#[]⟩⟩], [], 0⟩ = decide (dn < 2) by rcases (show dn = 0 ∨ dn = 1 ∨ dn = 2 by omega) with rfl | rfl | rfl <;> decide +kernel)
    have HE := Lib.hid (encTE_lim HM.out)
    have HWF := Lib.hid (show I64 1 ∧ I64 1 ∧ I64 0 from ⟨by unfold I64; omega, by unfold I64; omega, by unfold I64; omega⟩)
    have LA := Lib.hid (show LimAt w (((w.alloc (.cells #[.int .i64 1, .int .i64 1, .slice (some ⟨w.heap.size + 1 + 1, 0, none⟩) 1 1, .slice none 0 0, .int .i64 0] 68)).alloc (.cells #[.int .i64 (7 + ((dn : Int) - 1)), .int .i64 1, .bool false, .string ⟨#[]⟩] 53)).alloc (.cells #[.int .i64 (7 + ((dn : Int) - 1)), .int .i64 1, .bool false, .string ⟨#[]⟩] 53)) ⟨1, 1, [⟨(7 + ((dn : Int) - 1)), 1, false, ⟨#[]⟩⟩], [], 0⟩ (some ⟨w.heap.size + 1 + 1, 0, none⟩) 1 1 none 0 0 (.int .i64 (7 + ((dn : Int) - 1))) (.int .i64 1) (.bool false) (.string ⟨#[]⟩) from LimAt.mk0 ((Below.refl _ _).alloc (by simp) _) (one_chg (x := ⟨(7 + ((dn : Int) - 1)), 1, false, ⟨#[]⟩⟩) (by simp) (chg_wf (by unfold I64; omega) (by unfold I64; omega) (by show 0 ≤ _; omega))) IsSl.nil)
    go_enter Try.func14, Try.ntmps14
    go_wp2_with (first
      | (go_at_call 15; (with_reducible refine (mod_any n 3 _ (by omega) (by omega)).mono ?_); rintro e w' ⟨rfl, rfl⟩; rw [HD.out])
      | (go_at_call 15; (with_reducible refine (mod_any k 7 _ (by omega) (by omega)).mono ?_); rintro e w' ⟨rfl, rfl⟩; rw [HK.out])
      | (go_at_call 45; (with_reducible refine (txnEncode_any ⟨1, 1, [⟨(7 + ((dn : Int) - 1)), 1, false, ⟨#[]⟩⟩], [], 0⟩ (some ⟨w.heap.size + 1 + 1, 0, none⟩) 1 1 none 0 0 _ LA.out.s LA.out.s2 HWF.out).mono ?_); rintro e w2 ⟨v2, rfl, own2, bel2⟩; rw [HE.out]; obtain ⟨Ab, cb, rfl, _, _, _⟩ := own2.isSlB; have LB := Lib.hid (LA.out.next bel2); clear own2 bel2)
      | (go_at_call 44; (with_reducible refine (awake07_any _).mono ?_); rintro e w3 ⟨rfl, bel3⟩; have LC := Lib.hid (LB.out.next bel3); obtain ⟨t0, t1, t2, t3, t4, tz⟩ := LC.out.ct.c5; clear bel3)
      | (go_at_call 47; (with_reducible refine (may_any ⟨1, 1, [⟨(7 + ((dn : Int) - 1)), 1, false, ⟨#[]⟩⟩], [], 0⟩ (some ⟨w.heap.size + 1 + 1, 0, none⟩) 1 1 none 0 0 _ LC.out.s LC.out.s2).mono ?_); rintro e w4 ⟨rfl, bel4⟩; rw [HM.out]; have LD := Lib.hid (LC.out.next bel4); obtain ⟨q0, q1, q2, q3, qz⟩ := LD.out.cc.c4; clear bel4)
      | (go_at_call 50; (with_reducible refine (mayChange_any ⟨0, 1, gone, ⟨#[118]⟩⟩ 1 _).mono ?_); rintro e w5 ⟨rfl, bel5⟩; rw [MC1.out]; have B5 := Lib.hid (below_next ((((LD.out.bel.setCell (p := ⟨w.heap.size + 1, 0, none⟩) (by simp) _).setCell (p := ⟨w.heap.size + 1, 1, none⟩) (by simp) _).setCell (p := ⟨w.heap.size + 1, 2, none⟩) (by simp) _).setCell (p := ⟨w.heap.size + 1, 3, none⟩) (by simp) _) bel5); clear bel5)
      | (go_at_call 50; (with_reducible refine (mayChange_any ⟨0, 1, false, ⟨#[]⟩⟩ 0 _).mono ?_); rintro e w6 ⟨rfl, bel6⟩; rw [MC2.out]; have B6 := Lib.hid (below_next B5.out bel6); clear bel6)
      | (go_at_call 50; (with_reducible refine (mayChange_any ⟨0, 0, false, ⟨#[]⟩⟩ 1 _).mono ?_); rintro e w7 ⟨rfl, bel7⟩; rw [MC3.out]; have B7 := Lib.hid (below_next B6.out bel7); clear bel7)
      | fail)
    go_ret
    exact ⟨rfl, B7.out⟩
  · have HM := Lib.hid (show mayTxn ⟨(1099511627776 + ((dn : Int) - 1)), 1, [], [], 0⟩ = decide (dn < 2) by rcases (show dn = 0 ∨ dn = 1 ∨ dn = 2 by omega) with rfl | rfl | rfl <;> decide +kernel)
    have HE := Lib.hid (encTE_lim HM.out)
    have HWF := Lib.hid (show I64 (1099511627776 + ((dn : Int) - 1)) ∧ I64 1 ∧ I64 0 from ⟨by unfold I64; omega, by unfold I64; omega, by unfold I64; omega⟩)
    have LA := Lib.hid (show LimAt w ((w.alloc (.cells #[.int .i64 (1099511627776 + ((dn : Int) - 1)), .int .i64 1, .slice none 0 0, .slice none 0 0, .int .i64 0] 68)).alloc (.cells #[.int .i64 0, .int .i64 1, .bool false, .string ⟨#[]⟩] 53)) ⟨(1099511627776 + ((dn : Int) - 1)), 1, [], [], 0⟩ none 0 0 none 0 0 (.int .i64 0) (.int .i64 1) (.bool false) (.string ⟨#[]⟩) from LimAt.mk0 (Below.refl _ _) IsSl.nil IsSl.nil)
    go_enter Try.func14, Try.ntmps14
    go_wp2_with (first
      | (go_at_call 15; (with_reducible refine (mod_any n 3 _ (by omega) (by omega)).mono ?_); rintro e w' ⟨rfl, rfl⟩; rw [HD.out])
      | (go_at_call 15; (with_reducible refine (mod_any k 7 _ (by omega) (by omega)).mono ?_); rintro e w' ⟨rfl, rfl⟩; rw [HK.out])
      | (go_at_call 45; (with_reducible refine (txnEncode_any ⟨(1099511627776 + ((dn : Int) - 1)), 1, [], [], 0⟩ none 0 0 none 0 0 _ LA.out.s LA.out.s2 HWF.out).mono ?_); rintro e w2 ⟨v2, rfl, own2, bel2⟩; rw [HE.out]; obtain ⟨Ab, cb, rfl, _, _, _⟩ := own2.isSlB; have LB := Lib.hid (LA.out.next bel2); clear own2 bel2)
      | (go_at_call 44; (with_reducible refine (awake07_any _).mono ?_); rintro e w3 ⟨rfl, bel3⟩; have LC := Lib.hid (LB.out.next bel3); obtain ⟨t0, t1, t2, t3, t4, tz⟩ := LC.out.ct.c5; clear bel3)
      | (go_at_call 47; (with_reducible refine (may_any ⟨(1099511627776 + ((dn : Int) - 1)), 1, [], [], 0⟩ none 0 0 none 0 0 _ LC.out.s LC.out.s2).mono ?_); rintro e w4 ⟨rfl, bel4⟩; rw [HM.out]; have LD := Lib.hid (LC.out.next bel4); obtain ⟨q0, q1, q2, q3, qz⟩ := LD.out.cc.c4; clear bel4)
      | (go_at_call 50; (with_reducible refine (mayChange_any ⟨0, 1, gone, ⟨#[118]⟩⟩ 1 _).mono ?_); rintro e w5 ⟨rfl, bel5⟩; rw [MC1.out]; have B5 := Lib.hid (below_next ((((LD.out.bel.setCell (p := ⟨w.heap.size + 1, 0, none⟩) (by simp) _).setCell (p := ⟨w.heap.size + 1, 1, none⟩) (by simp) _).setCell (p := ⟨w.heap.size + 1, 2, none⟩) (by simp) _).setCell (p := ⟨w.heap.size + 1, 3, none⟩) (by simp) _) bel5); clear bel5)
      | (go_at_call 50; (with_reducible refine (mayChange_any ⟨0, 1, false, ⟨#[]⟩⟩ 0 _).mono ?_); rintro e w6 ⟨rfl, bel6⟩; rw [MC2.out]; have B6 := Lib.hid (below_next B5.out bel6); clear bel6)
      | (go_at_call 50; (with_reducible refine (mayChange_any ⟨0, 0, false, ⟨#[]⟩⟩ 1 _).mono ?_); rintro e w7 ⟨rfl, bel7⟩; rw [MC3.out]; have B7 := Lib.hid (below_next B6.out bel7); clear bel7)
      | fail)
    go_ret
    exact ⟨rfl, B7.out⟩
end Go.Proofs.Ytojjeogpggielaa
