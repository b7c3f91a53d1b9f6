/- Contracts: play's Change, Changes. Contracts: play's Signal, Signals. Contract: play's Txns. -/
import Derived.Test.YthhpddiicnjmmaaTxnA
import Derived.Test.YthhpddiicnjmmaaBlk
import Derived.Test.YthhpddiicnjmmaaOwnR
import Derived.Deep.QuietTactic
import Derived.BigQuiet
import Derived.Test.YthhpddiicnjmmaaFldA
import Derived.Test.YthhpddiicnjmmaaPlay
import Derived.Deep.RegionHeld3
import Derived.Test.YthhpddiicnjmmaaMemB
set_option linter.unusedVariables false
set_option linter.unusedSimpArgs false
namespace Go.Proofs.Ythhpddiicnjmmaa
open Go.RowKit

def cutS (s : ByteArray) (n : Nat) : ByteArray := s.extract 0 (min s.size n)

/-- A change that may be among so many tables, of any one. -/
def playChg (t : Int) (c : Chg) : Chg := ⟨modOf c.table t, if modOf c.key 31 = 30 then 1 + modOf c.key 1099511627776 else 1 + modOf c.key 12, c.gone, if c.gone = true then ⟨#[]⟩ else cutS c.val 32⟩

set_option maxRecDepth 100000 in
set_option maxHeartbeats 4000000 in
theorem playChange_any (c : Chg) (t : Int) (ht : 0 < t) (ht2 : t ≤ 9223372036854775807) (w : World) (hs : c.val.size ≤ maxLen) :
    Calls Try.prog 131 #[.agg #[.int .i64 c.table, .int .i64 c.key, .bool c.gone, .string c.val], .int .i64 t] w fun e w' => e = .returned (.agg #[.int .i64 (playChg t c).table, .int .i64 (playChg t c).key, .bool (playChg t c).gone, .string (playChg t c).val]) ∧ Below w.heap.size w w' := by
  obtain ⟨ct, ck, cg, cv⟩ := c
  have h12 := modOf_range ck 12 (by omega)
  have h31 := modOf_range ck 31 (by omega)
  have h40 := modOf_range ck 1099511627776 (by omega)
  obtain ⟨W, hW⟩ : ∃ W, W = (w.alloc (.cells #[.int .i64 ct, .int .i64 ck, .bool cg, .string cv] 162)).alloc (.cells #[.int .i64 0, .int .i64 0, .bool false, .string ⟨#[]⟩] 162) := ⟨_, rfl⟩
  have BW := Lib.hid (show Below w.heap.size w W by rw [hW]; exact ((Below.refl _ _).alloc (Nat.le_refl _) _).alloc (by simp) _)
  have K1 := Lib.hid ((Blk.new (w := w) (cs := #[.int .i64 ct, .int .i64 ck, .bool cg, .string cv]) (t := 162) rfl rfl).alloc (.cells #[.int .i64 0, .int .i64 0, .bool false, .string ⟨#[]⟩] 162))
  have K2 := Lib.hid (Blk.new (w := w.alloc (.cells #[.int .i64 ct, .int .i64 ck, .bool cg, .string cv] 162)) (cs := #[.int .i64 0, .int .i64 0, .bool false, .string ⟨#[]⟩]) (t := 162) rfl (n := w.heap.size + 1) (by simp))
  rw [← hW] at K1 K2
  have hWs : W.heap.size = w.heap.size + 2 := by rw [hW]; simp
  have HW := Lib.hid hW
  have HWS := Lib.hid hWs
  obtain ⟨k0, k1, k2, k3, kz⟩ := K1.out.c4
  have hwr : IntKind.i64.wrap (1 + modOf ck 12) = 1 + modOf ck 12 := IntWalk.i64_in _ (by omega)
  have HD := Lib.hid (show ∀ o, (W.alloc o).drew.cell? ⟨w.heap.size, 0, none⟩ = some (.int .i64 ct) ∧ (W.alloc o).drew.cell? ⟨w.heap.size, 1, none⟩ = some (.int .i64 ck) ∧ (W.alloc o).drew.cell? ⟨w.heap.size, 2, none⟩ = some (.bool cg) by intro o; obtain ⟨e0, e1, e2, _, _⟩ := (K1.out.alloc o).drew.c4; exact ⟨e0, e1, e2⟩)
  clear hW hWs
  go_enter Try.func131, Try.ntmps131
  go_wp2
  rw [← HW.out]
  go_region_held3 (fun w' => w'.cell? ⟨w.heap.size, 0, none⟩ = some (.int .i64 ct) ∧ w'.cell? ⟨w.heap.size, 1, none⟩ = some (.int .i64 ck) ∧ w'.cell? ⟨w.heap.size, 2, none⟩ = some (.bool cg)) (first | exact ⟨k0, k1, k2⟩ | exact HD.out _)
    (first
      | (go_at_call 19; (with_reducible refine (mod_any ct t _ ht ht2).mono ?_); rintro e w' ⟨rfl, rfl⟩)
      | (go_at_call 17; (with_reducible refine (big_any ck 12 _ (by omega) (by omega)).mono ?_); rintro e w' ⟨rfl, rfl⟩)
      | fail)
  all_goals
    clear hwr
    obtain ⟨X, hX⟩ : ∃ X, X = (W.alloc (.cells #[.int .i64 (modOf ct t), .int .i64 (1 + modOf ck 12), .bool cg, .string ⟨#[]⟩] 162)).drew := ⟨_, rfl⟩
    have X1 := Lib.hid (show Blk X w.heap.size [.int .i64 ct, .int .i64 ck, .bool cg, .string cv] by rw [hX]; exact (K1.out.alloc _).drew)
    have X2 := Lib.hid (show Blk X (w.heap.size + 1) [.int .i64 0, .int .i64 0, .bool false, .string ⟨#[]⟩] by rw [hX]; exact (K2.out.alloc _).drew)
    have X3 := Lib.hid (show Blk X W.heap.size [.int .i64 (modOf ct t), .int .i64 (1 + modOf ck 12), .bool cg, .string ⟨#[]⟩] by rw [hX]; exact (Blk.new rfl rfl).drew)
    have BX := Lib.hid (show Below w.heap.size w X by rw [hX]; exact below_of_drew0 (BW.out.alloc BW.out.size _))
    rw [← hX]
    obtain ⟨g, hg⟩ : ∃ g, g = W.heap.size := ⟨_, rfl⟩
    rw [← hg] at X3 ⊢
    have hgw : g = w.heap.size + 2 := by rw [hg]; exact HWS.out
    have HGW := Lib.hid hgw
    have hgb : w.heap.size ≤ g := by omega
    have hrb : w.heap.size ≤ w.heap.size + 1 := by omega
    have n1 : (w.heap.size = g) = False := by simp; omega
    have n2 : (g = w.heap.size) = False := by simp; omega
    have n3 : (w.heap.size + 1 = g) = False := by simp; omega
    have n4 : (g = w.heap.size + 1) = False := by simp; omega
    obtain ⟨s0, s1, s2, s3, sz⟩ := X1.out.c4
    obtain ⟨r0, r1, r2, r3, rz⟩ := X2.out.c4
    obtain ⟨t0, t1, t2, t3, tz⟩ := X3.out.c4
    clear hX hg hgw k0 k1 k2 k3 kz HD HW HWS K1 K2 BW
    by_cases hk : modOf ck 31 = 30
    · have HK := Lib.hid hk
      clear hk
      cases cg
      · have HF := Lib.hid (show playChg t ⟨ct, ck, false, cv⟩ = ⟨modOf ct t, 1 + modOf ck 1099511627776, false, cutS cv 32⟩ by unfold playChg; rw [if_pos HK.out, if_neg (by simp)])
        go_wp2_with (first
          | (go_at_call 17; (with_reducible refine (big_any ck 31 _ (by omega) (by omega)).mono ?_); rintro e w' ⟨rfl, rfl⟩; rw [HK.out])
          | (go_at_call 17; (with_reducible refine (big_any ck 1099511627776 _ (by omega) (by omega)).mono ?_); rintro e w' ⟨rfl, rfl⟩)
          | (go_at_call 59; (with_reducible refine (cut_any cv 32 32 rfl _ hs).mono ?_); rintro e w' ⟨rfl, rfl⟩)
          | fail)
        refine bodyPost_ret (by simp [results, Try.results131, go_sem, r0, r1, r2, r3, n1, n2, n3, n4]; try rfl) rfl ?_
        rw [HF.out]
        exact ⟨rfl, ((((((BX.out.setCell hgb _).setCell hgb _).setCell hrb _).setCell hrb _).setCell hrb _).setCell hrb _)⟩
      · have HF := Lib.hid (show playChg t ⟨ct, ck, true, cv⟩ = ⟨modOf ct t, 1 + modOf ck 1099511627776, true, ⟨#[]⟩⟩ by unfold playChg; rw [if_pos HK.out, if_pos rfl])
        go_wp2_with (first
          | (go_at_call 17; (with_reducible refine (big_any ck 31 _ (by omega) (by omega)).mono ?_); rintro e w' ⟨rfl, rfl⟩; rw [HK.out])
          | (go_at_call 17; (with_reducible refine (big_any ck 1099511627776 _ (by omega) (by omega)).mono ?_); rintro e w' ⟨rfl, rfl⟩)
          | (go_at_call 59; (with_reducible refine (cut_any cv 32 32 rfl _ hs).mono ?_); rintro e w' ⟨rfl, rfl⟩)
          | fail)
        refine bodyPost_ret (by simp [results, Try.results131, go_sem, r0, r1, r2, r3, n1, n2, n3, n4]; try rfl) rfl ?_
        rw [HF.out]
        exact ⟨rfl, (((((BX.out.setCell hgb _).setCell hrb _).setCell hrb _).setCell hrb _).setCell hrb _)⟩
    · have HK := Lib.hid hk
      have hk1 : (modOf ck 31 == 30) = false := by simpa using hk
      clear hk
      cases cg
      · have HF := Lib.hid (show playChg t ⟨ct, ck, false, cv⟩ = ⟨modOf ct t, 1 + modOf ck 12, false, cutS cv 32⟩ by unfold playChg; rw [if_neg HK.out, if_neg (by simp)])
        go_wp2_with (first
          | (go_at_call 17; (with_reducible refine (big_any ck 31 _ (by omega) (by omega)).mono ?_); rintro e w' ⟨rfl, rfl⟩)
          | (go_at_call 17; (with_reducible refine (big_any ck 1099511627776 _ (by omega) (by omega)).mono ?_); rintro e w' ⟨rfl, rfl⟩)
          | (go_at_call 59; (with_reducible refine (cut_any cv 32 32 rfl _ hs).mono ?_); rintro e w' ⟨rfl, rfl⟩)
          | fail)
        refine bodyPost_ret (by simp [results, Try.results131, go_sem, r0, r1, r2, r3, n1, n2, n3, n4]; try rfl) rfl ?_
        rw [HF.out]
        exact ⟨rfl, (((((BX.out.setCell hgb _).setCell hrb _).setCell hrb _).setCell hrb _).setCell hrb _)⟩
      · have HF := Lib.hid (show playChg t ⟨ct, ck, true, cv⟩ = ⟨modOf ct t, 1 + modOf ck 12, true, ⟨#[]⟩⟩ by unfold playChg; rw [if_neg HK.out, if_pos rfl])
        go_wp2_with (first
          | (go_at_call 17; (with_reducible refine (big_any ck 31 _ (by omega) (by omega)).mono ?_); rintro e w' ⟨rfl, rfl⟩)
          | (go_at_call 17; (with_reducible refine (big_any ck 1099511627776 _ (by omega) (by omega)).mono ?_); rintro e w' ⟨rfl, rfl⟩)
          | (go_at_call 59; (with_reducible refine (cut_any cv 32 32 rfl _ hs).mono ?_); rintro e w' ⟨rfl, rfl⟩)
          | fail)
        refine bodyPost_ret (by simp [results, Try.results131, go_sem, r0, r1, r2, r3, n1, n2, n3, n4]; try rfl) rfl ?_
        rw [HF.out]
        exact ⟨rfl, ((((BX.out.setCell hrb _).setCell hrb _).setCell hrb _).setCell hrb _)⟩

theorem playChg_wf {c : Chg} (t : Int) (ht : 0 < t) (ht2 : t ≤ 9223372036854775807) : (playChg t c).wf := by
  have h12 := modOf_range c.key 12 (by omega)
  have h40 := modOf_range c.key 1099511627776 (by omega)
  have htt := modOf_range c.table t ht
  refine ⟨by unfold I64 playChg; dsimp only; omega, by unfold I64 playChg; dsimp only; split <;> omega, ?_⟩
  unfold playChg cutS maxLen
  dsimp only
  split
  · exact Nat.zero_le _
  · rw [ByteArray.size_extract]; omega

theorem playChg_may {c : Chg} (t : Int) (ht : 0 < t) : mayChg (playChg t c) t = true := by
  have h12 := modOf_range c.key 12 (by omega)
  have h40 := modOf_range c.key 1099511627776 (by omega)
  have htt := modOf_range c.table t ht
  unfold mayChg playChg
  dsimp only
  refine decide_eq_true ⟨by omega, by omega, by split <;> omega, by split <;> omega, ?_, ?_⟩
  · split
    · exact Nat.zero_le _
    · unfold cutS; rw [ByteArray.size_extract]; omega
  · by_cases h : c.gone = true
    · right; rw [if_pos h]; rfl
    · left; simpa using h

/-- At most so many changes. -/
def playChgs (t : Int) (most : Nat) (l : List Chg) : List Chg := (l.take most).map (playChg t)

set_option maxRecDepth 100000 in
set_option maxHeartbeats 4000000 in
theorem playChanges_any (A : Option Addr) (n c : Nat) (l : List Chg) (t : Int) (ht : 0 < t) (ht2 : t ≤ 9223372036854775807) (most : Nat) (mi : Int) (hmi : mi = (most : Int)) (hm2 : most ≤ 1000) (w : World) (h : IsSl chgRep w (· < w.heap.size) A n l) :
    Calls Try.prog 76 #[.slice A n c, .int .i64 t, .int .i64 mi] w fun e w' => ∃ v, e = .returned v ∧ Own chgRep w' w.heap.size (fun _ => False) 162 v (playChgs t most l) ∧ Below w.heap.size w w' := by
  subst hmi
  obtain ⟨i0, hi, hz0, hz1, hz2⟩ := info_parts (show (Try.prog.info? 162).map (fun i => (i.zero, i.size, i.bytes)) = some (some (.agg #[.int .i64 0, .int .i64 0, .bool false, .string ByteArray.empty]), 4, 40) by kernel_rfl)
  have H := Lib.hid h
  have HL := Lib.hid h.len
  clear h
  go_enter Try.func76, Try.ntmps76
  go_wp2_with fail
  go_loopw [7, 8] (fun v i wr => ∃ p : Nat, i = .int .i64 p ∧ p ≤ n ∧ p ≤ most ∧ Own chgRep wr w.heap.size (fun _ => False) 162 v ((l.take p).map (playChg t)) ∧ Below w.heap.size w wr) (fun _ i _ => most - (intOf i).toNat)
  case atStart => exact ⟨0, rfl, Nat.zero_le _, Nat.zero_le _, by simpa using Own.nil (R := chgRep) w w.heap.size (fun _ => False) (fun _ h => h.elim) _ none, Below.refl _ _⟩
  case round =>
    obtain ⟨p, rfl, hpn, hpm, hown, hbel⟩ := hrel
    have HO := Lib.hid hown
    have hsz := hbel.size
    obtain ⟨B, hB⟩ : ∃ B, B = (l.take p).map (playChg t) := ⟨_, rfl⟩
    rw [← hB] at HO
    have hBl : B.length ≤ 1000 := by rw [hB, List.length_map, List.length_take]; omega
    have HB := Lib.hid hB
    clear hown hB
    by_cases hlt : p < n ∧ p < most
    · obtain ⟨h1, h2⟩ := hlt
      obtain ⟨b0, off, x, rfl, hbS, hx, hwf, c0, c1, c2, c3⟩ := H.out.chg h1 (fun p hp => hbel.cell hp)
      have hd1 : decide (p < n) = true := decide_eq_true h1
      have hd2 : decide (p < most) = true := decide_eq_true h2
      have HSN := Lib.hid (show (l.take (p + 1)).map (playChg t) = (l.take p).map (playChg t) ++ [playChg t x] by rw [take_snoc hx, List.map_append]; rfl)
      have HRW := Lib.hid (playChg_wf (c := x) t ht ht2)
      have hxs : x.val.size ≤ maxLen := hwf.2.2
      clear hx hwf
      obtain ⟨xt, xk, xg, xv⟩ := x
      dsimp only at c0 c1 c2 c3 hxs
      go_wp2_with (first
        | (go_at_call 131; (with_reducible refine (playChange_any ⟨xt, xk, xg, xv⟩ t ht ht2 _ hxs).mono ?_); rintro e w3 ⟨rfl, bel3⟩; have OW3 := Lib.hid (HO.out.below bel3); have BW3 := Lib.hid (hbel.trans (bel3.mono hsz)); have hs3 := BW3.out.size; clear bel3)
        | (at_builtin; refine wpList_append_Own _ rfl _ _ 65 rfl w.heap.size 162 i0 _ 40 Try.underlying65 hi hz0 hz1 hz2 rfl (R := chgRep) (S := fun _ => False) (l := B) (l' := [playChg t ⟨xt, xk, xg, xv⟩]) u7 rfl (OW3.out.alloc _) _ 1 1 rfl ?_ (by simp only [maxLen]; omega) (by omega) (by omega) (by simp; omega) ?_; exact Src.new (cs := (playChg t ⟨xt, xk, xg, xv⟩).cells) ⟨rfl, HRW.out⟩; intro v5 w5 own5 gr5 at5; have OW5 := Lib.hid own5; have BW5 := Lib.hid ((BW3.out.alloc hs3 _).grown gr5 (by simp; omega) (fun g hg => OW3.out.row_ge hg)); clear own5 gr5 at5)
        | fail)
      go_roundw
      case rel => exact ⟨p + 1, by go_num, by omega, by omega, by rw [HSN.out, ← HB.out]; exact OW5.out, BW5.out⟩
      case measure => simp [intOf]; omega
    · have hend : n ≤ p ∨ (p < n ∧ p = most) := by omega
      have HE := Lib.hid (show B = playChgs t most l by
        rw [HB.out]; unfold playChgs
        rcases hend with h | ⟨_, h⟩
        · rw [List.take_of_length_le (by rw [← HL.out]; exact h), List.take_of_length_le (by rw [← HL.out]; omega)]
        · rw [h])
      clear hlt
      rcases hend with h | ⟨h0, rfl⟩
      · have hd1 : decide (p < n) = false := decide_eq_false (by omega)
        go_wp2
        go_ret
        exact ⟨_, rfl, by rw [← HE.out]; exact HO.out, hbel⟩
      · have hd1 : decide (p < n) = true := decide_eq_true h0
        have hd2 : decide (p < p) = false := decide_eq_false (by omega)
        go_wp2
        go_ret
        exact ⟨_, rfl, by rw [← HE.out]; exact HO.out, hbel⟩
end Go.Proofs.Ythhpddiicnjmmaa

set_option linter.unusedVariables false
set_option linter.unusedSimpArgs false
namespace Go.Proofs.Ythhpddiicnjmmaa
open Go.RowKit

def snapL : List UInt8 := [115, 110, 97, 112, 115, 104, 111, 116, 32]

/-- A signal that begins with byte b, or the text itself. -/
def sigOf (t : Nat) (b : Nat) : List UInt8 := snapL ++ [UInt8.ofNat (48 + b / 4 % t)] ++ (if b % 4 = 0 then [] else [32, UInt8.ofNat (49 + b / 16 % 8)])

def playSig (t : Nat) (s : ByteArray) : ByteArray :=
  if h : 0 < s.size then (if s[0].toNat % 4 = 3 then cutS s 40 else ⟨(sigOf t s[0].toNat).toArray⟩) else ⟨(snapL ++ [48]).toArray⟩

theorem one_byte (x : Nat) (h : x < 256) : (#[.int .u8 (x : Int)] : Array Value) = (byteVals [UInt8.ofNat x]).toArray := by
  have e1 : ((UInt8.ofNat x).toNat : Int) = (x : Int) := by rw [UInt8.toNat_ofNat']; omega
  rw [← e1]
  rfl

set_option maxRecDepth 100000 in
set_option maxHeartbeats 4000000 in
theorem playSignal_any (s : ByteArray) (t : Nat) (ti : Int) (hti : ti = (t : Int)) (ht : 0 < t) (ht2 : t ≤ 8) (w : World) (hs : s.size ≤ maxLen) :
    Calls Try.prog 91 #[.string s, .int .i64 ti] w fun e w' => e = .returned (.string (playSig t s)) ∧ Below w.heap.size w w' := by
  subst hti
  by_cases h0 : 0 < s.size
  · have hb : s[0].toNat < 256 := s[0].toNat_lt
    have hne : s.toList.isEmpty = false := by rw [str_empty]; exact beq_eq_false_iff_ne.2 (by omega)
    by_cases h3 : s[0].toNat % 4 = 3
    · have HF := Lib.hid (show playSig t s = cutS s 40 by unfold playSig; rw [dif_pos h0, if_pos h3])
      have H3 := Lib.hid h3
      have hd : ((((s[0].toNat : Nat) : Int) % (4 : Int)) == (3 : Int)) = true := beq_iff_eq.2 (by have h := congrArg Int.ofNat h3; simpa using h)
      clear h3
      go_enter Try.func91, Try.ntmps91
      go_wp2_with (first
        | (go_at_call 59; (with_reducible refine (cut_any s 40 40 rfl _ hs).mono ?_); rintro e w' ⟨rfl, rfl⟩)
        | fail)
      go_ret
      rw [HF.out]
      exact ⟨rfl, Below.refl _ _⟩
    · have HF := Lib.hid (show playSig t s = ⟨(sigOf t s[0].toNat).toArray⟩ by unfold playSig; rw [dif_pos h0, if_neg h3])
      have hd : (((s[0].toNat : Int) % 4) == 3) = false := beq_eq_false_iff_ne.2 (by omega)
      obtain ⟨b, hbe⟩ : ∃ b, b = s[0].toNat := ⟨_, rfl⟩
      have hq := Nat.mod_lt (b / 4) ht
      obtain ⟨q, hqe⟩ : ∃ q, q = b / 4 % t := ⟨_, rfl⟩
      obtain ⟨r, hre⟩ : ∃ r, r = b / 16 % 8 := ⟨_, rfl⟩
      have hq8 : q < 8 := by omega
      have hr8 : r < 8 := by omega
      have e1 : (s[0].toNat : Int) / 4 % (t : Int) = (q : Int) := by rw [hqe, hbe]; simp
      have e2 : (s[0].toNat : Int) / 16 % 8 = (r : Int) := by rw [hre, hbe]; simp
      have e3 : (48 + (q : Int)) % 256 = 48 + (q : Int) := by omega
      have e4 : (49 + (r : Int)) % 256 = 49 + (r : Int) := by omega
      have HB := Lib.hid hbe
      have HSG : Hid (sigOf t s[0].toNat = snapL ++ [UInt8.ofNat (48 + q)] ++ (if b % 4 = 0 then [] else [32, UInt8.ofNat (49 + r)])) := Lib.hid (by unfold sigOf; rw [← hbe, ← hqe, ← hre])
      obtain ⟨x, hx⟩ : ∃ x, x = UInt8.ofNat (48 + q) := ⟨_, rfl⟩
      obtain ⟨y, hy⟩ : ∃ y, y = UInt8.ofNat (49 + r) := ⟨_, rfl⟩
      have hb1 := one_byte (48 + q) (by omega)
      have hb2 := one_byte (49 + r) (by omega)
      rw [← hx] at hb1 HSG
      rw [← hy] at hb2 HSG
      have hcv := run_str_of (P := Try.prog) (c := 1) 25 9 5 Try.underlying25 Try.underlying5 Try.underlying9 (IsSl.newBytes (S := fun _ => True) (t := 5) (w := w) [x] (cs := #[.int .u8 (48 + (q : Int))]) (by rw [← hb1]; simp) (n := 1) rfl trivial)
      have hcv2 := run_str_of (P := Try.prog) (c := 1) 25 9 5 Try.underlying25 Try.underlying5 Try.underlying9 (IsSl.newBytes (S := fun _ => True) (t := 5) (w := w.alloc (.cells #[.int .u8 (48 + (q : Int))] 5)) [y] (cs := #[.int .u8 (49 + (r : Int))]) (by rw [← hb2]; simp) (n := 1) rfl trivial)
      rw [show (w.alloc (.cells #[.int .u8 (48 + (q : Int))] 5)).heap.size = w.heap.size + 1 by simp] at hcv2
      clear hb1 hb2 hx hy hqe hre hbe h3
      by_cases h4 : s[0].toNat % 4 = 0
      · have hd4 : decide ((0 : Int) < ((s[0].toNat : Nat) : Int) % (4 : Int)) = false := decide_eq_false (by omega)
        have HS4 := Lib.hid (show sigOf t s[0].toNat = snapL ++ [x] by rw [HSG.out, HB.out, if_pos h4, List.append_nil])
        clear h4
        go_enter Try.func91, Try.ntmps91
        go_wp2
        go_ret
        rw [HF.out, HS4.out]
        refine ⟨?_, by repeat first | exact Below.refl _ _ | refine Below.alloc ?_ (by simp) _⟩
        refine congrArg (fun z => Ending.returned (.string z)) (ByteArray.ext ?_)
        simp [snapL]
      · have hd4 : decide ((0 : Int) < ((s[0].toNat : Nat) : Int) % (4 : Int)) = true := decide_eq_true (by omega)
        have HS4 := Lib.hid (show sigOf t s[0].toNat = snapL ++ [x] ++ [32, y] by rw [HSG.out, HB.out, if_neg h4])
        clear h4
        go_enter Try.func91, Try.ntmps91
        go_wp2
        go_ret
        rw [HF.out, HS4.out]
        refine ⟨?_, by repeat first | exact Below.refl _ _ | refine Below.alloc ?_ (by simp) _⟩
        refine congrArg (fun z => Ending.returned (.string z)) (ByteArray.ext ?_)
        simp [snapL]
  · have h0' : s.size = 0 := by omega
    have HF := Lib.hid (show playSig t s = ⟨(snapL ++ [48]).toArray⟩ by unfold playSig; rw [dif_neg h0])
    obtain ⟨⟨l⟩⟩ := s
    have hl : l = [] := List.eq_nil_of_length_eq_zero h0'
    subst hl
    go_enter Try.func91, Try.ntmps91
    go_wp2
    go_ret
    rw [HF.out]
    exact ⟨rfl, Below.refl _ _⟩

theorem playSig_size (t : Nat) (s : ByteArray) : (playSig t s).size ≤ 40 := by
  unfold playSig
  split
  · split
    · unfold cutS; rw [ByteArray.size_extract]; omega
    · unfold sigOf snapL
      show (List.toArray _).size ≤ 40
      split <;> simp
  · decide

def playSigs (t : Nat) (most : Nat) (l : List ByteArray) : List ByteArray := (l.take most).map (playSig t)

set_option maxRecDepth 100000 in
set_option maxHeartbeats 4000000 in
theorem playSignals_any (A : Option Addr) (n c : Nat) (l : List ByteArray) (t : Nat) (ti : Int) (hti : ti = (t : Int)) (ht : 0 < t) (ht2 : t ≤ 8) (most : Nat) (mi : Int) (hmi : mi = (most : Int)) (hm2 : most ≤ 1000) (w : World) (h : IsSl strRep w (· < w.heap.size) A n l) :
    Calls Try.prog 37 #[.slice A n c, .int .i64 ti, .int .i64 mi] w fun e w' => ∃ v, e = .returned v ∧ Own strRep w' w.heap.size (fun _ => False) 9 v (playSigs t most l) ∧ Below w.heap.size w w' := by
  subst hmi hti
  obtain ⟨i0, hi, hz0, hz1, hz2⟩ := info_parts (show (Try.prog.info? 9).map (fun i => (i.zero, i.size, i.bytes)) = some (some (.string ByteArray.empty), 1, 16) by kernel_rfl)
  have H := Lib.hid h
  have HL := Lib.hid h.len
  clear h
  go_enter Try.func37, Try.ntmps37
  go_wp2_with fail
  go_loopw [7, 8] (fun v i wr => ∃ p : Nat, i = .int .i64 p ∧ p ≤ n ∧ p ≤ most ∧ Own strRep wr w.heap.size (fun _ => False) 9 v ((l.take p).map (playSig t)) ∧ Below w.heap.size w wr) (fun _ i _ => most - (intOf i).toNat)
  case atStart => exact ⟨0, rfl, Nat.zero_le _, Nat.zero_le _, by simpa using Own.nil (R := strRep) w w.heap.size (fun _ => False) (fun _ h => h.elim) _ none, Below.refl _ _⟩
  case round =>
    obtain ⟨p, rfl, hpn, hpm, hown, hbel⟩ := hrel
    have HO := Lib.hid hown
    have hsz := hbel.size
    obtain ⟨B, hB⟩ : ∃ B, B = (l.take p).map (playSig t) := ⟨_, rfl⟩
    rw [← hB] at HO
    have hBl : B.length ≤ 1000 := by rw [hB, List.length_map, List.length_take]; omega
    have HB := Lib.hid hB
    clear hown hB
    by_cases hlt : p < n ∧ p < most
    · obtain ⟨h1, h2⟩ := hlt
      obtain ⟨b0, off, x, rfl, hbS, hx, hxs, c0⟩ := H.out.str h1 (fun p hp => hbel.cell hp)
      have hd1 : decide (p < n) = true := decide_eq_true h1
      have hd2 : decide (p < most) = true := decide_eq_true h2
      have HSN := Lib.hid (show (l.take (p + 1)).map (playSig t) = (l.take p).map (playSig t) ++ [playSig t x] by rw [take_snoc hx, List.map_append]; rfl)
      have HRW := Lib.hid (show (playSig t x).size ≤ maxLen by have := playSig_size t x; unfold maxLen; omega)
      clear hx
      go_wp2_with (first
        | (go_at_call 91; (with_reducible refine (playSignal_any x t _ rfl ht ht2 _ hxs).mono ?_); rintro e w3 ⟨rfl, bel3⟩; have OW3 := Lib.hid (HO.out.below bel3); have BW3 := Lib.hid (hbel.trans (bel3.mono hsz)); have hs3 := BW3.out.size; clear bel3)
        | (at_builtin; refine wpList_append_Own _ rfl _ _ 66 rfl w.heap.size 9 i0 _ 16 Try.underlying66 hi hz0 hz1 hz2 rfl (R := strRep) (S := fun _ => False) (l := B) (l' := [playSig t x]) u7 rfl (OW3.out.alloc _) _ 1 1 rfl ?_ (by simp only [maxLen]; omega) (by omega) (by omega) (by simp; omega) ?_; exact Src.new (cs := [.string (playSig t x)]) ⟨rfl, HRW.out⟩; intro v5 w5 own5 gr5 at5; have OW5 := Lib.hid own5; have BW5 := Lib.hid ((BW3.out.alloc hs3 _).grown gr5 (by simp; omega) (fun g hg => OW3.out.row_ge hg)); clear own5 gr5 at5)
        | fail)
      go_roundw
      case rel => exact ⟨p + 1, by go_num, by omega, by omega, by rw [HSN.out, ← HB.out]; exact OW5.out, BW5.out⟩
      case measure => simp [intOf]; omega
    · have hend : n ≤ p ∨ (p < n ∧ p = most) := by omega
      have HE := Lib.hid (show B = playSigs t most l by
        rw [HB.out]; unfold playSigs
        rcases hend with h | ⟨_, h⟩
        · rw [List.take_of_length_le (by rw [← HL.out]; exact h), List.take_of_length_le (by rw [← HL.out]; omega)]
        · rw [h])
      clear hlt
      rcases hend with h | ⟨h0, rfl⟩
      · have hd1 : decide (p < n) = false := decide_eq_false (by omega)
        go_wp2
        go_ret
        exact ⟨_, rfl, by rw [← HE.out]; exact HO.out, hbel⟩
      · have hd1 : decide (p < n) = true := decide_eq_true h0
        have hd2 : decide (p < p) = false := decide_eq_false (by omega)
        go_wp2
        go_ret
        exact ⟨_, rfl, by rw [← HE.out]; exact HO.out, hbel⟩
end Go.Proofs.Ythhpddiicnjmmaa

set_option linter.unusedVariables false
set_option linter.unusedSimpArgs false
set_option maxRecDepth 100000
namespace Go.Proofs.Ythhpddiicnjmmaa
open Go.RowKit

/-- What an owned slice's elements lead to may be said to be more. -/
theorem Own.weakS {α : Type} {R : Rep α} {w : World} {base : Nat} {S S' : Nat → Prop} {e : TypeId} {v : Value} {l : List α} (h : Own R w base S e v l) (hS : ∀ b, S b → S' b) (hlt : ∀ b, S' b → b < w.heap.size) (hrow : ∀ g, rowOf v = some g → ¬ S' g) : Own R w base S' e v l := by
  refine ⟨hlt, ?_⟩
  rcases h.2 with hn | ⟨g, cap, cur, xss, rfl, hbg, hSg, hh, hle, hm, hsz, hr, htake⟩
  · exact .inl hn
  · cases cap with
    | zero =>
      obtain rfl : l = [] := List.eq_nil_of_length_eq_zero (by omega)
      exact .inl ⟨_, rfl, rfl⟩
    | succ c => exact .inr ⟨g, c + 1, cur, xss, rfl, hbg, hrow g rfl, hh, hle, hm, hsz, hr.weak hS, htake⟩

theorem IsSl.txn {w w' : World} {B n k : Nat} {A : Option Addr} {l : List Txn} (h : IsSl txnRep w (· < B) A n l) (hk : k < n) (hw : ∀ p : Addr, p.block < B → w'.cell? p = w.cell? p) :
    ∃ b off x A2 n2 c2 A3 n3 c3, A = some ⟨b, off, none⟩ ∧ b < B ∧ l[k]? = some x ∧ (I64 x.lsn ∧ I64 x.kind ∧ I64 x.mark) ∧ w'.cell? ⟨b, off + k * 5, none⟩ = some (.int .i64 x.lsn) ∧ w'.cell? ⟨b, off + k * 5 + 1, none⟩ = some (.int .i64 x.kind) ∧ w'.cell? ⟨b, off + k * 5 + 2, none⟩ = some (.slice A2 n2 c2) ∧ w'.cell? ⟨b, off + k * 5 + 3, none⟩ = some (.slice A3 n3 c3) ∧ w'.cell? ⟨b, off + k * 5 + 4, none⟩ = some (.int .i64 x.mark) ∧ IsSl chgRep w' (· < B) A2 n2 x.changes ∧ n2 ≤ c2 ∧ c2 ≤ maxLen ∧ IsSl strRep w' (· < B) A3 n3 x.signals ∧ n3 ≤ c3 ∧ c3 ≤ maxLen := by
  obtain ⟨b, off, x, cs, rfl, hb, hx, ⟨v2, v3, rfl, i0, i1, i2, ⟨A2, n2, c2, h2, s2, l2, m2⟩, ⟨A3, n3, c3, h3, s3, l3, m3⟩⟩, hc⟩ := h.at_ hk
  obtain rfl : v2 = .slice A2 n2 c2 := by simpa using h2
  obtain rfl : v3 = .slice A3 n3 c3 := by simpa using h3
  exact ⟨b, off, x, A2, n2, c2, A3, n3, c3, rfl, hb, hx, ⟨i0, i1, i2⟩, (hw _ hb).trans (hc 0 _ rfl), (hw _ hb).trans (hc 1 _ rfl), (hw _ hb).trans (hc 2 _ rfl), (hw _ hb).trans (hc 3 _ rfl), (hw _ hb).trans (hc 4 _ rfl), s2.keep hw, l2, m2, s3.keep hw, l3, m3⟩

/-- The transaction at place i that may be, of any one. -/
def playTxn (t : Nat) (i : Nat) (x : Txn) : Txn :=
  if modOf x.kind 9 = 8 then ⟨(i : Int) + 1, 2 + modOf (x.kind.tdiv 9) 2, [], [], 1 + modOf x.mark 20⟩
  else ⟨(i : Int) + 1, 1, playChgs t 5 x.changes, playSigs t 2 x.signals, 0⟩

def playFrom (t : Nat) : Nat → List Txn → List Txn
  | _, [] => []
  | i, x :: r => playTxn t i x :: playFrom t (i + 1) r

/-- Transactions that may be, numbered one by one. -/
def playTxns (t most : Nat) (l : List Txn) : List Txn := playFrom t 0 (l.take most)

theorem playFrom_snoc (t : Nat) : ∀ (l : List Txn) (i : Nat) (x : Txn), playFrom t i (l ++ [x]) = playFrom t i l ++ [playTxn t (i + l.length) x]
  | [], i, x => by simp [playFrom]
  | y :: r, i, x => by
    rw [List.cons_append, playFrom, playFrom, playFrom_snoc t r, List.cons_append, List.length_cons, show i + 1 + r.length = i + (r.length + 1) by omega]

theorem playFrom_len (t : Nat) : ∀ (l : List Txn) (i : Nat), (playFrom t i l).length = l.length
  | [], _ => rfl
  | x :: r, i => by rw [playFrom, List.length_cons, playFrom_len t r, List.length_cons]

theorem playChgs_len (t : Int) (m : Nat) (l : List Chg) : (playChgs t m l).length ≤ m := by unfold playChgs; rw [List.length_map, List.length_take]; omega
theorem playSigs_len (t m : Nat) (l : List ByteArray) : (playSigs t m l).length ≤ m := by unfold playSigs; rw [List.length_map, List.length_take]; omega

theorem info_txn : (Try.prog.info? 68).map (fun i => (i.zero, i.size, i.bytes)) = some (some (.agg #[.int .i64 0, .int .i64 0, .slice none 0 0, .slice none 0 0, .int .i64 0]), 5, 72) := by kernel_rfl

theorem Own.row_not {α : Type} {R : Rep α} {w : World} {base : Nat} {S : Nat → Prop} {e : TypeId} {v : Value} {l : List α} (h : Own R w base S e v l) {g : Nat} (hg : rowOf v = some g) : ¬ S g := by
  rcases h.2 with ⟨A, rfl, rfl⟩ | ⟨g', cap, cur, xss, rfl, hbg, hS, _⟩
  · cases A <;> simp [rowOf] at hg
  · cases cap with
    | zero => simp [rowOf] at hg
    | succ c =>
      simp [rowOf] at hg
      subst hg
      exact hS

theorem lies_mk {w : World} {S : Nat → Prop} {a b c : Int} {cs : List Chg} {ss : List ByteArray} {A : Option Addr} {n d : Nat} {A2 : Option Addr} {n2 d2 : Nat} (ha : I64 a) (hb : I64 b) (hc : I64 c) (h : IsSl chgRep w S A n cs) (h1 : n ≤ d) (h2 : d ≤ maxLen) (k : IsSl strRep w S A2 n2 ss) (k1 : n2 ≤ d2) (k2 : d2 ≤ maxLen) :
    txnRep.rel w S ⟨a, b, cs, ss, c⟩ [.int .i64 a, .int .i64 b, .slice A n d, .slice A2 n2 d2, .int .i64 c] :=
  ⟨_, _, rfl, ha, hb, hc, ⟨A, n, d, rfl, h, h1, h2⟩, ⟨A2, n2, d2, rfl, k, k1, k2⟩⟩

theorem IsSl.keepSet {α : Type} {R : Rep α} {w : World} {S : Nat → Prop} {A : Option Addr} {n : Nat} {l : List α} (h : IsSl R w S A n l) {d : Nat} (hd : ¬ S d) (j : Nat) (v : Value) : IsSl R (w.setCell ⟨d, j, none⟩ v) S A n l :=
  h.keep fun p hp => World.cell?_setCell_other _ _ _ _ (by intro e; rw [← e] at hp; exact hd hp)

theorem Own.keepSet {α : Type} {R : Rep α} {w : World} {base : Nat} {S : Nat → Prop} {e : TypeId} {v : Value} {l : List α} (h : Own R w base S e v l) {d : Nat} (hd : rowOf v ≠ some d) (hS : ¬ S d) (j : Nat) (u : Value) : Own R (w.setCell ⟨d, j, none⟩ u) base S e v l :=
  h.kept (grownBy_set w ⟨d, j, none⟩ u) (fun k hk => by injection hk with hk; subst hk; exact ⟨hd, hS⟩)

theorem flat_str' : Flat strRep := fun _ _ _ _ _ _ h => h

theorem IsSl.setAlloc {α : Type} {R : Rep α} {w : World} {T : Nat} {S S' : Nat → Prop} {A : Option Addr} {n : Nat} {l : List α} (h : IsSl R w S A n l) (e : ∀ b, S b → S' b ∧ b ≠ T ∧ b < w.heap.size) (j : Nat) (v : Value) (o : Obj) : IsSl R ((w.setCell ⟨T, j, none⟩ v).alloc o) S' A n l := by
  have h2 := h.keepSet (d := T) (fun hd => (e T hd).2.1 rfl) j v
  refine (h2.keep fun p hp => ?_).weak fun b hb => (e b hb).1
  have hb : Below w.heap.size (w.setCell ⟨T, j, none⟩ v) ((w.setCell ⟨T, j, none⟩ v).alloc o) := (Below.refl _ _).alloc (by simp) o
  exact hb.cell (e _ hp).2.2

theorem Src.newAt {α : Type} {R : Rep α} {w : World} {S : Nat → Prop} {e : TypeId} {a : α} {cs : List Value} {n : Nat} (hn : n = w.heap.size) (h : R.rel (w.alloc (.cells cs.toArray e)) S a cs) : Src R (w.alloc (.cells cs.toArray e)) S (some ⟨n, 0, none⟩) 1 [a] := by
  subst hn; exact Src.new h

theorem wrap_tdiv9 {x : Int} (h : I64 x) : wrap64 (x.tdiv 9) = x.tdiv 9 := by
  unfold I64 at h
  unfold wrap64
  rcases Int.le_total 0 x with h0 | h0
  · rw [Int.tdiv_eq_ediv_of_nonneg h0]; omega
  · have : x.tdiv 9 = -((-x) / 9) := by rw [← Int.tdiv_eq_ediv_of_nonneg (by omega), Int.neg_tdiv, Int.neg_neg]
    rw [this]; omega

/-- A list of transactions made by a call: it owns the row, and what the elements lead to is new too. -/
def OwnT (w : World) (base : Nat) (v : Value) (l : List Txn) : Prop := ∃ S : Nat → Prop, (∀ b, S b → base ≤ b) ∧ Own txnRep w base S 68 v l

set_option maxRecDepth 100000 in
set_option maxHeartbeats 8000000 in
theorem playTxns_any (A : Option Addr) (n c : Nat) (l : List Txn) (t : Nat) (ti : Int) (hti : ti = (t : Int)) (ht : 0 < t) (ht2 : t ≤ 8) (most : Nat) (mi : Int) (hmi : mi = (most : Int)) (hm2 : most ≤ 1000) (w : World) (h : IsSl txnRep w (· < w.heap.size) A n l) :
    Calls Try.prog 26 #[.slice A n c, .int .i64 ti, .int .i64 mi] w fun e w' => ∃ v, e = .returned v ∧ OwnT w' w.heap.size v (playTxns t most l) ∧ Below w.heap.size w w' := by
  subst hmi hti
  obtain ⟨i0, hi, hz0, hz1, hz2⟩ := info_parts info_txn
  have H := Lib.hid h
  have HL := Lib.hid h.len
  have ht3 : (0 : Int) < (t : Int) := by omega
  have ht4 : (t : Int) ≤ 9223372036854775807 := by omega
  clear h
  go_enter Try.func26, Try.ntmps26
  go_wp2_with fail
  go_loopw [7, 8] (fun v i wr => ∃ p : Nat, i = .int .i64 p ∧ p ≤ n ∧ p ≤ most ∧ OwnT wr w.heap.size v (playFrom t 0 (l.take p)) ∧ Below w.heap.size w wr) (fun _ i _ => most - (intOf i).toNat)
  case atStart => exact ⟨0, rfl, Nat.zero_le _, Nat.zero_le _, ⟨fun _ => False, fun _ h => h.elim, by simpa [playFrom] using Own.nil (R := txnRep) w w.heap.size (fun _ => False) (fun _ h => h.elim) _ none⟩, Below.refl _ _⟩
  case round =>
    obtain ⟨p, rfl, hpn, hpm, ⟨S, hSb, hown⟩, hbel⟩ := hrel
    have HO := Lib.hid hown
    have hsz := hbel.size
    obtain ⟨B, hB⟩ : ∃ B, B = playFrom t 0 (l.take p) := ⟨_, rfl⟩
    rw [← hB] at HO
    have hBl : B.length ≤ 1000 := by rw [hB, playFrom_len, List.length_take]; omega
    have HB := Lib.hid hB
    have HSB := Lib.hid hSb
    clear hown hB hSb
    by_cases hlt : p < n ∧ p < most
    · obtain ⟨h1, h2⟩ := hlt
      obtain ⟨b0, off, x, A2, n2, c2, A3, n3, c3, rfl, hbS, hx, hwf, k0, k1, k2, k3, k4, s2, l2, m2, s3, l3, m3⟩ := H.out.txn h1 (fun p hp => hbel.cell hp)
      have hd1 : decide (p < n) = true := decide_eq_true h1
      have hd2 : decide (p < most) = true := decide_eq_true h2
      have HSN := Lib.hid (show playFrom t 0 (l.take (p + 1)) = playFrom t 0 (l.take p) ++ [playTxn t p x] by rw [take_snoc hx, playFrom_snoc, List.length_take, show 0 + min p l.length = p by rw [← HL.out]; omega])
      have S2 := Lib.hid s2
      have S3 := Lib.hid s3
      clear hx s2 s3
      obtain ⟨xl, xk, xc, xs, xm⟩ := x
      dsimp only at k0 k1 k2 k3 k4 hwf S2 S3
      by_cases hk : modOf xk 9 = 8
      · have hk1 : (modOf xk 9 == 8) = true := by simpa using hk
        have HR := Lib.hid (show playTxn t p ⟨xl, xk, xc, xs, xm⟩ = ⟨(p : Int) + 1, 2 + modOf (xk.tdiv 9) 2, [], [], 1 + modOf xm 20⟩ from if_pos hk)
        have hr1 := modOf_range (xk.tdiv 9) 2 (by omega)
        have H9 := Lib.hid (show wrap64 (xk.tdiv 9) = xk.tdiv 9 from wrap_tdiv9 hwf.2.1)
        have hr2 := modOf_range xm 20 (by omega)
        have hbw : b0 < wr.heap.size := Nat.lt_of_lt_of_le hbS hsz
        have hbn : b0 ≠ wr.heap.size := by omega
        have HRW : Hid (∀ g, rowOf u7 = some g → g < wr.heap.size) := Lib.hid (fun g hg => HO.out.row_lt hg)
        have HRL := Lib.hid (show ∀ o, txnRep.rel ((wr.alloc (.cells #[.int .i64 ((p : Int) + 1), .int .i64 (2 + modOf (xk.tdiv 9) 2), .slice none 0 0, .slice none 0 0, .int .i64 (1 + modOf xm 20)] 68)).alloc o) S ⟨(p : Int) + 1, 2 + modOf (xk.tdiv 9) 2, [], [], 1 + modOf xm 20⟩ [.int .i64 ((p : Int) + 1), .int .i64 (2 + modOf (xk.tdiv 9) 2), .slice none 0 0, .slice none 0 0, .int .i64 (1 + modOf xm 20)] from fun o => lies_mk (by unfold I64; omega) (by unfold I64; omega) (by unfold I64; omega) IsSl.nil (Nat.le_refl _) (Nat.zero_le _) IsSl.nil (Nat.le_refl _) (Nat.zero_le _))
        have HOX := Lib.hid (HO.out.alloc (.cells #[.int .i64 ((p : Int) + 1), .int .i64 (2 + modOf (xk.tdiv 9) 2), .slice none 0 0, .slice none 0 0, .int .i64 (1 + modOf xm 20)] 68))
        have BX := Lib.hid (hbel.alloc hsz (.cells #[.int .i64 ((p : Int) + 1), .int .i64 (2 + modOf (xk.tdiv 9) 2), .slice none 0 0, .slice none 0 0, .int .i64 (1 + modOf xm 20)] 68))
        clear hk
        go_wp2_with (first
          | (go_at_call 19; (with_reducible refine (mod_any xk 9 _ (by omega) (by omega)).mono ?_); rintro e w' ⟨rfl, rfl⟩)
          | (go_at_call 19; rw [H9.out]; (with_reducible refine (mod_any (xk.tdiv 9) 2 _ (by omega) (by omega)).mono ?_); rintro e w' ⟨rfl, rfl⟩)
          | (go_at_call 17; (with_reducible refine (big_any xm 20 _ (by omega) (by omega)).mono ?_); rintro e w' ⟨rfl, rfl⟩)
          | (at_builtin; refine wpList_append_Own _ rfl _ _ 50 rfl w.heap.size 68 i0 _ 72 Try.underlying50 hi hz0 hz1 hz2 rfl (R := txnRep) (S := S) (l := B) (l' := [⟨(p : Int) + 1, 2 + modOf (xk.tdiv 9) 2, [], [], 1 + modOf xm 20⟩]) u7 rfl (HOX.out.alloc _) _ 1 1 rfl ?_ (by simp only [maxLen]; omega) (by omega) (by omega) (by simp; omega) ?_; exact Src.newAt (by simp) (cs := [.int .i64 ((p : Int) + 1), .int .i64 (2 + modOf (xk.tdiv 9) 2), .slice none 0 0, .slice none 0 0, .int .i64 (1 + modOf xm 20)]) (HRL.out _); intro v6 w6 own6 gr6 at6; have OW6 := Lib.hid own6; have BW6 := Lib.hid ((BX.out.alloc (by simp; omega) _).grown gr6 (by simp; omega) (fun g hg => HOX.out.row_ge hg)); clear own6 gr6 at6)
          | fail)
        go_roundw
        case rel => exact ⟨p + 1, by go_num, by omega, by omega, ⟨S, HSB.out, by rw [HSN.out, ← HB.out, HR.out]; exact OW6.out⟩, BW6.out⟩
        case measure => simp [intOf]; omega
      · have hk1 : (modOf xk 9 == 8) = false := by simpa using hk
        have HR := Lib.hid (show playTxn t p ⟨xl, xk, xc, xs, xm⟩ = ⟨(p : Int) + 1, 1, playChgs t 5 xc, playSigs t 2 xs, 0⟩ from if_neg hk)
        clear hk
        have hbw : b0 < wr.heap.size := Nat.lt_of_lt_of_le hbS hsz
        have T0 := Lib.hid (Blk.new (w := wr) (cs := #[.int .i64 ((p : Int) + 1), .int .i64 1, .slice none 0 0, .slice none 0 0, .int .i64 0]) (t := 68) rfl rfl)
        have HRW : Hid (∀ g, rowOf u7 = some g → g < wr.heap.size) := Lib.hid (fun g hg => HO.out.row_lt hg)
        have KK := Lib.hid (show wr.cell? ⟨b0, off + p * 5 + 3, none⟩ = some (.slice A3 n3 c3) from k3)
        go_wp2_with (first
          | (go_at_call 19; (with_reducible refine (mod_any xk 9 _ (by omega) (by omega)).mono ?_); rintro e w' ⟨rfl, rfl⟩)
          | (go_at_call 76; (with_reducible refine (playChanges_any A2 n2 c2 xc (t : Int) ht3 ht4 5 5 rfl (by omega) _ ((S2.out.below ((Below.refl _ _).alloc hsz (.cells #[.int .i64 ((p : Int) + 1), .int .i64 1, .slice none 0 0, .slice none 0 0, .int .i64 0] 68))).more (by simp; omega))).mono ?_); rintro e w3 ⟨v3, rfl, own3, bel3⟩; obtain ⟨A4, c4, rfl, l4, m4, s4⟩ := own3.isSlR; obtain ⟨q4, hq4⟩ : ∃ q, q = (playChgs (t : Int) 5 xc).length := ⟨_, rfl⟩; rw [← hq4] at l4 s4 ⊢; have T3 := Lib.hid (T0.out.after bel3); obtain ⟨t0, t1, t2, t3, t4, tz⟩ := T3.out.c5; have S4 := Lib.hid s4; have bel3' : Below wr.heap.size wr w3 := ((Below.refl _ _).alloc (Nat.le_refl _) (.cells #[.int .i64 ((p : Int) + 1), .int .i64 1, .slice none 0 0, .slice none 0 0, .int .i64 0] 68)).trans (bel3.mono (by simp)); have B3 := Lib.hid bel3'; have hs3 : wr.heap.size + 1 ≤ w3.heap.size := (by have := bel3.size; simpa using this); have k3 := (bel3'.cell (p := ⟨b0, off + p * 5 + 3, none⟩) hbw).trans k3; have HO3 := Lib.hid ((HO.out.alloc (.cells #[.int .i64 ((p : Int) + 1), .int .i64 1, .slice none 0 0, .slice none 0 0, .int .i64 0] 68)).below bel3); clear own3 bel3 s4 bel3' hq4)
          | (go_at_call 37; (with_reducible refine (playSignals_any A3 n3 c3 xs t _ rfl ht ht2 2 2 rfl (by omega) _ ((S3.out.below ((B3.out.mono hsz).setCell (p := ⟨wr.heap.size, 2, none⟩) hsz _)).more (by simp; omega))).mono ?_); rintro e w4 ⟨v4, rfl, own4, bel4⟩; obtain ⟨A5, c5, rfl, l5, m5, s5⟩ := own4.isSlR; obtain ⟨q5, hq5⟩ : ∃ q, q = (playSigs t 2 xs).length := ⟨_, rfl⟩; rw [← hq5] at l5 s5 ⊢; have T4 := Lib.hid ((T3.out.put (j := 2) (by simp) (cs' := [.int .i64 ((p : Int) + 1), .int .i64 1, .slice A4 q4 c4, .slice none 0 0, .int .i64 0]) _ rfl).after bel4); obtain ⟨t0, t1, t2, t3, t4, tz⟩ := T4.out.c5; have S5 := Lib.hid s5; have S6 := Lib.hid ((S4.out.keepSet (d := wr.heap.size) (by simp; omega) 2 (.slice A4 q4 c4)).keep (fun p hp => bel4.cell (by simpa using hp.2))); have hs4 : w3.heap.size ≤ w4.heap.size := (by have := bel4.size; simpa using this); have B4 := Lib.hid (((B3.out.setCell (p := ⟨wr.heap.size, 2, none⟩) (Nat.le_refl _) _).trans (bel4.mono (by simp; omega)))); have HO4 := Lib.hid ((HO3.out.keepSet (d := wr.heap.size) (fun e => Nat.lt_irrefl _ (HRW.out _ e)) (fun hS => Nat.lt_irrefl _ (HO.out.1 _ hS)) 2 (.slice A4 q4 c4)).below bel4); have HE1 := Lib.hid (show ∀ b, (wr.heap.size + 1 ≤ b ∧ b < w3.heap.size) → (S b ∨ (wr.heap.size < b ∧ b < w4.heap.size)) ∧ b ≠ wr.heap.size ∧ b < w4.heap.size from fun b hb => ⟨.inr ⟨by omega, by omega⟩, by omega, by omega⟩); have HE2 := Lib.hid (show ∀ b, (w3.heap.size ≤ b ∧ b < w4.heap.size) → (S b ∨ (wr.heap.size < b ∧ b < w4.heap.size)) ∧ b ≠ wr.heap.size ∧ b < w4.heap.size from fun b hb => ⟨.inr ⟨by omega, by omega⟩, by omega, by omega⟩); have HI1 : I64 ((p : Int) + 1) := (by unfold I64; omega); have HI2 : I64 1 := (by unfold I64; omega); have HI3 : I64 0 := (by unfold I64; omega); have HRL := Lib.hid (show ∀ o, txnRep.rel ((w4.setCell ⟨wr.heap.size, 3, none⟩ (.slice A5 q5 c5)).alloc o) (fun b => S b ∨ (wr.heap.size < b ∧ b < w4.heap.size)) ⟨(p : Int) + 1, 1, playChgs t 5 xc, playSigs t 2 xs, 0⟩ [.int .i64 ((p : Int) + 1), .int .i64 1, .slice A4 q4 c4, .slice A5 q5 c5, .int .i64 0] from fun o => lies_mk HI1 HI2 HI3 (S6.out.setAlloc (fun b hb => HE1.out b (by simpa using hb)) 3 _ o) l4 m4 (S5.out.setAlloc (fun b hb => HE2.out b (by simpa using hb)) 3 _ o) l5 m5); have HOX := Lib.hid ((HO4.out.keepSet (d := wr.heap.size) (fun e => Nat.lt_irrefl _ (HRW.out _ e)) (fun hS => Nat.lt_irrefl _ (HO.out.1 _ hS)) 3 (.slice A5 q5 c5)).weakS (S' := fun b => S b ∨ (wr.heap.size < b ∧ b < w4.heap.size)) (fun b hb => .inl hb) (fun b hb => by rcases hb with hb | hb; exact Nat.lt_of_lt_of_le (HO4.out.1 _ hb) (by simp); exact Nat.lt_of_lt_of_le hb.2 (by simp)) (fun g hg hS => by rcases hS with hS | hS; exact HO4.out.row_not hg hS; have := HRW.out g hg; omega)); have BX := Lib.hid (((hbel.trans (B4.out.mono hsz)).setCell (p := ⟨wr.heap.size, 3, none⟩) hsz (.slice A5 q5 c5))); clear own4 bel4 s5 hq5 HI1 HI2 HI3)
          | (at_builtin; refine wpList_append_Own _ rfl _ _ 50 rfl w.heap.size 68 i0 _ 72 Try.underlying50 hi hz0 hz1 hz2 rfl (R := txnRep) (S := fun b => S b ∨ (wr.heap.size < b ∧ b < w4.heap.size)) (l := B) (l' := [⟨(p : Int) + 1, 1, playChgs t 5 xc, playSigs t 2 xs, 0⟩]) u7 rfl (HOX.out.alloc _) _ 1 1 rfl ?_ (by simp only [maxLen]; omega) (by omega) (by omega) (by simp; omega) ?_; exact Src.newAt (cs := [.int .i64 ((p : Int) + 1), .int .i64 1, .slice A4 q4 c4, .slice A5 q5 c5, .int .i64 0]) (by simp) (HRL.out _); intro v6 w6 own6 gr6 at6; have OW6 := Lib.hid own6; have BW6 := Lib.hid ((BX.out.alloc (by simp; omega) _).grown gr6 (by simp; omega) (fun g hg => HOX.out.row_ge hg)); clear own6 gr6 at6)
          | fail)
        go_roundw
        case rel => exact ⟨p + 1, by go_num, by omega, by omega, ⟨fun b => S b ∨ (wr.heap.size < b ∧ b < w4.heap.size), fun b hb => hb.elim (HSB.out b) (fun hb => by omega), by rw [HSN.out, ← HB.out, HR.out]; exact OW6.out⟩, BW6.out⟩
        case measure => simp [intOf]; omega
    · have hend : n ≤ p ∨ (p < n ∧ p = most) := by omega
      have HE := Lib.hid (show B = playTxns t most l by
        rw [HB.out]; unfold playTxns
        rcases hend with h | ⟨_, h⟩
        · rw [List.take_of_length_le (by rw [← HL.out]; exact h), List.take_of_length_le (by rw [← HL.out]; omega)]
        · rw [h])
      clear hlt
      rcases hend with h | ⟨h0, rfl⟩
      · have hd1 : decide (p < n) = false := decide_eq_false (by omega)
        go_wp2
        go_ret
        exact ⟨_, rfl, ⟨S, HSB.out, by rw [← HE.out]; exact HO.out⟩, hbel⟩
      · have hd1 : decide (p < n) = true := decide_eq_true h0
        have hd2 : decide (p < p) = false := decide_eq_false (by omega)
        go_wp2
        go_ret
        exact ⟨_, rfl, ⟨S, HSB.out, by rw [← HE.out]; exact HO.out⟩, hbel⟩
end Go.Proofs.Ythhpddiicnjmmaa
