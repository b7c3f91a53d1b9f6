/- Contracts: play's Change, Changes. -/
import Derived.Test.YtojjeogpggielaaTxn12
import Derived.Test.YtojjeogpggielaaFldA
import Derived.Test.YtojjeogpggielaaPlay
import Derived.Deep.RegionHeld3
set_option linter.unusedVariables false
set_option linter.unusedSimpArgs false
namespace Go.Proofs.Ytojjeogpggielaa
open Go.RowKit

def cutS (s : ByteArray) (n : Nat) : ByteArray := s.extract 0 (min s.size n)

/-- A change that may be among so many tables, of any one. -/
def playChg (t : Int) (c : Chg) : Chg := ⟨modOf c.table t, if modOf c.key 31 = 30 then 1 + modOf c.key 1099511627776 else 1 + modOf c.key 12, c.gone, if c.gone = true then ⟨#[]⟩ else cutS c.val 32⟩

set_option maxRecDepth 100000 in
set_option maxHeartbeats 4000000 in
theorem playChange_any (c : Chg) (t : Int) (ht : 0 < t) (ht2 : t ≤ 9223372036854775807) (w : World) (hs : c.val.size ≤ maxLen) :
    Calls Try.prog 57 #[.agg #[.int .i64 c.table, .int .i64 c.key, .bool c.gone, .string c.val], .int .i64 t] w fun e w' => e = .returned (.agg #[.int .i64 (playChg t c).table, .int .i64 (playChg t c).key, .bool (playChg t c).gone, .string (playChg t c).val]) ∧ Below w.heap.size w w' := by
  obtain ⟨ct, ck, cg, cv⟩ := c
  have h12 := modOf_range ck 12 (by omega)
  have h31 := modOf_range ck 31 (by omega)
  have h40 := modOf_range ck 1099511627776 (by omega)
  obtain ⟨W, hW⟩ : ∃ W, W = (w.alloc (.cells #[.int .i64 ct, .int .i64 ck, .bool cg, .string cv] 53)).alloc (.cells #[.int .i64 0, .int .i64 0, .bool false, .string ⟨#[]⟩] 53) := ⟨_, rfl⟩
  have BW := Lib.hid (show Below w.heap.size w W by rw [hW]; exact ((Below.refl _ _).alloc (Nat.le_refl _) _).alloc (by simp) _)
  have K1 := Lib.hid ((Blk.new (w := w) (cs := #[.int .i64 ct, .int .i64 ck, .bool cg, .string cv]) (t := 53) rfl rfl).alloc (.cells #[.int .i64 0, .int .i64 0, .bool false, .string ⟨#[]⟩] 53))
  have K2 := Lib.hid (Blk.new (w := w.alloc (.cells #[.int .i64 ct, .int .i64 ck, .bool cg, .string cv] 53)) (cs := #[.int .i64 0, .int .i64 0, .bool false, .string ⟨#[]⟩]) (t := 53) rfl (n := w.heap.size + 1) (by simp))
  rw [← hW] at K1 K2
  have hWs : W.heap.size = w.heap.size + 2 := by rw [hW]; simp
  have HW := Lib.hid hW
  have HWS := Lib.hid hWs
  obtain ⟨k0, k1, k2, k3, kz⟩ := K1.out.c4
  have hwr : IntKind.i64.wrap (1 + modOf ck 12) = 1 + modOf ck 12 := IntWalk.i64_in _ (by omega)
  have HD := Lib.hid (show ∀ o, (W.alloc o).drew.cell? ⟨w.heap.size, 0, none⟩ = some (.int .i64 ct) ∧ (W.alloc o).drew.cell? ⟨w.heap.size, 1, none⟩ = some (.int .i64 ck) ∧ (W.alloc o).drew.cell? ⟨w.heap.size, 2, none⟩ = some (.bool cg) by intro o; obtain ⟨e0, e1, e2, _, _⟩ := (K1.out.alloc o).drew.c4; exact ⟨e0, e1, e2⟩)
  clear hW hWs
  go_enter Try.func57, Try.ntmps57
  go_wp2
  rw [← HW.out]
  go_region_held3 (fun w' => w'.cell? ⟨w.heap.size, 0, none⟩ = some (.int .i64 ct) ∧ w'.cell? ⟨w.heap.size, 1, none⟩ = some (.int .i64 ck) ∧ w'.cell? ⟨w.heap.size, 2, none⟩ = some (.bool cg)) (first | exact ⟨k0, k1, k2⟩ | exact HD.out _)
    (first
      | (go_at_call 15; (with_reducible refine (mod_any ct t _ ht ht2).mono ?_); rintro e w' ⟨rfl, rfl⟩)
      | (go_at_call 19; (with_reducible refine (big_any ck 12 _ (by omega) (by omega)).mono ?_); rintro e w' ⟨rfl, rfl⟩)
      | fail)
  all_goals
    clear hwr
    obtain ⟨X, hX⟩ : ∃ X, X = (W.alloc (.cells #[.int .i64 (modOf ct t), .int .i64 (1 + modOf ck 12), .bool cg, .string ⟨#[]⟩] 53)).drew := ⟨_, rfl⟩
    have X1 := Lib.hid (show Blk X w.heap.size [.int .i64 ct, .int .i64 ck, .bool cg, .string cv] by rw [hX]; exact (K1.out.alloc _).drew)
    have X2 := Lib.hid (show Blk X (w.heap.size + 1) [.int .i64 0, .int .i64 0, .bool false, .string ⟨#[]⟩] by rw [hX]; exact (K2.out.alloc _).drew)
    have X3 := Lib.hid (show Blk X W.heap.size [.int .i64 (modOf ct t), .int .i64 (1 + modOf ck 12), .bool cg, .string ⟨#[]⟩] by rw [hX]; exact (Blk.new rfl rfl).drew)
    have BX := Lib.hid (show Below w.heap.size w X by rw [hX]; exact below_of_drew0 (BW.out.alloc BW.out.size _))
    rw [← hX]
    obtain ⟨g, hg⟩ : ∃ g, g = W.heap.size := ⟨_, rfl⟩
    rw [← hg] at X3 ⊢
    have hgw : g = w.heap.size + 2 := by rw [hg]; exact HWS.out
    have HGW := Lib.hid hgw
    have hgb : w.heap.size ≤ g := by omega
    have hrb : w.heap.size ≤ w.heap.size + 1 := by omega
    have n1 : (w.heap.size = g) = False := by simp; omega
    have n2 : (g = w.heap.size) = False := by simp; omega
    have n3 : (w.heap.size + 1 = g) = False := by simp; omega
    have n4 : (g = w.heap.size + 1) = False := by simp; omega
    obtain ⟨s0, s1, s2, s3, sz⟩ := X1.out.c4
    obtain ⟨r0, r1, r2, r3, rz⟩ := X2.out.c4
    obtain ⟨t0, t1, t2, t3, tz⟩ := X3.out.c4
    clear hX hg hgw k0 k1 k2 k3 kz HD HW HWS K1 K2 BW
    by_cases hk : modOf ck 31 = 30
    · have HK := Lib.hid hk
      clear hk
      cases cg
      · have HF := Lib.hid (show playChg t ⟨ct, ck, false, cv⟩ = ⟨modOf ct t, 1 + modOf ck 1099511627776, false, cutS cv 32⟩ by unfold playChg; rw [if_pos HK.out, if_neg (by simp)])
        go_wp2_with (first
          | (go_at_call 19; (with_reducible refine (big_any ck 31 _ (by omega) (by omega)).mono ?_); rintro e w' ⟨rfl, rfl⟩; rw [HK.out])
          | (go_at_call 19; (with_reducible refine (big_any ck 1099511627776 _ (by omega) (by omega)).mono ?_); rintro e w' ⟨rfl, rfl⟩)
          | (go_at_call 108; (with_reducible refine (cut_any cv 32 32 rfl _ hs).mono ?_); rintro e w' ⟨rfl, rfl⟩)
          | fail)
        refine bodyPost_ret (by simp [results, Try.results57, go_sem, r0, r1, r2, r3, n1, n2, n3, n4]; try rfl) rfl ?_
        rw [HF.out]
        exact ⟨rfl, ((((((BX.out.setCell hgb _).setCell hgb _).setCell hrb _).setCell hrb _).setCell hrb _).setCell hrb _)⟩
      · have HF := Lib.hid (show playChg t ⟨ct, ck, true, cv⟩ = ⟨modOf ct t, 1 + modOf ck 1099511627776, true, ⟨#[]⟩⟩ by unfold playChg; rw [if_pos HK.out, if_pos rfl])
        go_wp2_with (first
          | (go_at_call 19; (with_reducible refine (big_any ck 31 _ (by omega) (by omega)).mono ?_); rintro e w' ⟨rfl, rfl⟩; rw [HK.out])
          | (go_at_call 19; (with_reducible refine (big_any ck 1099511627776 _ (by omega) (by omega)).mono ?_); rintro e w' ⟨rfl, rfl⟩)
          | (go_at_call 108; (with_reducible refine (cut_any cv 32 32 rfl _ hs).mono ?_); rintro e w' ⟨rfl, rfl⟩)
          | fail)
        refine bodyPost_ret (by simp [results, Try.results57, go_sem, r0, r1, r2, r3, n1, n2, n3, n4]; try rfl) rfl ?_
        rw [HF.out]
        exact ⟨rfl, (((((BX.out.setCell hgb _).setCell hrb _).setCell hrb _).setCell hrb _).setCell hrb _)⟩
    · have HK := Lib.hid hk
      have hk1 : (modOf ck 31 == 30) = false := by simpa using hk
      clear hk
      cases cg
      · have HF := Lib.hid (show playChg t ⟨ct, ck, false, cv⟩ = ⟨modOf ct t, 1 + modOf ck 12, false, cutS cv 32⟩ by unfold playChg; rw [if_neg HK.out, if_neg (by simp)])
        go_wp2_with (first
          | (go_at_call 19; (with_reducible refine (big_any ck 31 _ (by omega) (by omega)).mono ?_); rintro e w' ⟨rfl, rfl⟩)
          | (go_at_call 19; (with_reducible refine (big_any ck 1099511627776 _ (by omega) (by omega)).mono ?_); rintro e w' ⟨rfl, rfl⟩)
          | (go_at_call 108; (with_reducible refine (cut_any cv 32 32 rfl _ hs).mono ?_); rintro e w' ⟨rfl, rfl⟩)
          | fail)
        refine bodyPost_ret (by simp [results, Try.results57, go_sem, r0, r1, r2, r3, n1, n2, n3, n4]; try rfl) rfl ?_
        rw [HF.out]
        exact ⟨rfl, (((((BX.out.setCell hgb _).setCell hrb _).setCell hrb _).setCell hrb _).setCell hrb _)⟩
      · have HF := Lib.hid (show playChg t ⟨ct, ck, true, cv⟩ = ⟨modOf ct t, 1 + modOf ck 12, true, ⟨#[]⟩⟩ by unfold playChg; rw [if_neg HK.out, if_pos rfl])
        go_wp2_with (first
          | (go_at_call 19; (with_reducible refine (big_any ck 31 _ (by omega) (by omega)).mono ?_); rintro e w' ⟨rfl, rfl⟩)
          | (go_at_call 19; (with_reducible refine (big_any ck 1099511627776 _ (by omega) (by omega)).mono ?_); rintro e w' ⟨rfl, rfl⟩)
          | (go_at_call 108; (with_reducible refine (cut_any cv 32 32 rfl _ hs).mono ?_); rintro e w' ⟨rfl, rfl⟩)
          | fail)
        refine bodyPost_ret (by simp [results, Try.results57, go_sem, r0, r1, r2, r3, n1, n2, n3, n4]; try rfl) rfl ?_
        rw [HF.out]
        exact ⟨rfl, ((((BX.out.setCell hrb _).setCell hrb _).setCell hrb _).setCell hrb _)⟩

theorem playChg_wf {c : Chg} (t : Int) (ht : 0 < t) (ht2 : t ≤ 9223372036854775807) : (playChg t c).wf := by
  have h12 := modOf_range c.key 12 (by omega)
  have h40 := modOf_range c.key 1099511627776 (by omega)
  have htt := modOf_range c.table t ht
  refine ⟨by unfold I64 playChg; dsimp only; omega, by unfold I64 playChg; dsimp only; split <;> omega, ?_⟩
  unfold playChg cutS maxLen
  dsimp only
  split
  · exact Nat.zero_le _
  · rw [ByteArray.size_extract]; omega

theorem playChg_may {c : Chg} (t : Int) (ht : 0 < t) : mayChg (playChg t c) t = true := by
  have h12 := modOf_range c.key 12 (by omega)
  have h40 := modOf_range c.key 1099511627776 (by omega)
  have htt := modOf_range c.table t ht
  unfold mayChg playChg
  dsimp only
  refine decide_eq_true ⟨by omega, by omega, by split <;> omega, by split <;> omega, ?_, ?_⟩
  · split
    · exact Nat.zero_le _
    · unfold cutS; rw [ByteArray.size_extract]; omega
  · by_cases h : c.gone = true
    · right; rw [if_pos h]; rfl
    · left; simpa using h

/-- At most so many changes. -/
def playChgs (t : Int) (most : Nat) (l : List Chg) : List Chg := (l.take most).map (playChg t)

set_option maxRecDepth 100000 in
set_option maxHeartbeats 4000000 in
theorem playChanges_any (A : Option Addr) (n c : Nat) (l : List Chg) (t : Int) (ht : 0 < t) (ht2 : t ≤ 9223372036854775807) (most : Nat) (mi : Int) (hmi : mi = (most : Int)) (hm2 : most ≤ 1000) (w : World) (h : IsSl chgRep w (· < w.heap.size) A n l) :
    Calls Try.prog 18 #[.slice A n c, .int .i64 t, .int .i64 mi] w fun e w' => ∃ v, e = .returned v ∧ Own chgRep w' w.heap.size (fun _ => False) 53 v (playChgs t most l) ∧ Below w.heap.size w w' := by
  subst hmi
  obtain ⟨i0, hi, hz0, hz1, hz2⟩ := info_parts (show (Try.prog.info? 53).map (fun i => (i.zero, i.size, i.bytes)) = some (some (.agg #[.int .i64 0, .int .i64 0, .bool false, .string ByteArray.empty]), 4, 40) by kernel_rfl)
  have H := Lib.hid h
  have HL := Lib.hid h.len
  clear h
  go_enter Try.func18, Try.ntmps18
  go_wp2_with fail
  go_loopw [7, 8] (fun v i wr => ∃ p : Nat, i = .int .i64 p ∧ p ≤ n ∧ p ≤ most ∧ Own chgRep wr w.heap.size (fun _ => False) 53 v ((l.take p).map (playChg t)) ∧ Below w.heap.size w wr) (fun _ i _ => most - (intOf i).toNat)
  case atStart => exact ⟨0, rfl, Nat.zero_le _, Nat.zero_le _, by simpa using Own.nil (R := chgRep) w w.heap.size (fun _ => False) (fun _ h => h.elim) _ none, Below.refl _ _⟩
  case round =>
    obtain ⟨p, rfl, hpn, hpm, hown, hbel⟩ := hrel
    have HO := Lib.hid hown
    have hsz := hbel.size
    obtain ⟨B, hB⟩ : ∃ B, B = (l.take p).map (playChg t) := ⟨_, rfl⟩
    rw [← hB] at HO
    have hBl : B.length ≤ 1000 := by rw [hB, List.length_map, List.length_take]; omega
    have HB := Lib.hid hB
    clear hown hB
    by_cases hlt : p < n ∧ p < most
    · obtain ⟨h1, h2⟩ := hlt
      obtain ⟨b0, off, x, rfl, hbS, hx, hwf, c0, c1, c2, c3⟩ := H.out.chg h1 (fun p hp => hbel.cell hp)
      have hd1 : decide (p < n) = true := decide_eq_true h1
      have hd2 : decide (p < most) = true := decide_eq_true h2
      have HSN := Lib.hid (show (l.take (p + 1)).map (playChg t) = (l.take p).map (playChg t) ++ [playChg t x] by rw [take_snoc hx, List.map_append]; rfl)
      have HRW := Lib.hid (playChg_wf (c := x) t ht ht2)
      have hxs : x.val.size ≤ maxLen := hwf.2.2
      clear hx hwf
      obtain ⟨xt, xk, xg, xv⟩ := x
      dsimp only at c0 c1 c2 c3 hxs
      go_wp2_with (first
        | (go_at_call 57; (with_reducible refine (playChange_any ⟨xt, xk, xg, xv⟩ t ht ht2 _ hxs).mono ?_); rintro e w3 ⟨rfl, bel3⟩; have OW3 := Lib.hid (HO.out.below bel3); have BW3 := Lib.hid (hbel.trans (bel3.mono hsz)); have hs3 := BW3.out.size; clear bel3)
        | (at_builtin; refine wpList_append_Own _ rfl _ _ 22 rfl w.heap.size 53 i0 _ 40 Try.underlying22 hi hz0 hz1 hz2 rfl (R := chgRep) (S := fun _ => False) (l := B) (l' := [playChg t ⟨xt, xk, xg, xv⟩]) u7 rfl (OW3.out.alloc _) _ 1 1 rfl ?_ (by simp only [maxLen]; omega) (by omega) (by omega) (by simp; omega) ?_; exact Src.new (cs := (playChg t ⟨xt, xk, xg, xv⟩).cells) ⟨rfl, HRW.out⟩; intro v5 w5 own5 gr5 at5; have OW5 := Lib.hid own5; have BW5 := Lib.hid ((BW3.out.alloc hs3 _).grown gr5 (by simp; omega) (fun g hg => OW3.out.row_ge hg)); clear own5 gr5 at5)
        | fail)
      go_roundw
      case rel => exact ⟨p + 1, by go_num, by omega, by omega, by rw [HSN.out, ← HB.out]; exact OW5.out, BW5.out⟩
      case measure => simp [intOf]; omega
    · have hend : n ≤ p ∨ (p < n ∧ p = most) := by omega
      have HE := Lib.hid (show B = playChgs t most l by
        rw [HB.out]; unfold playChgs
        rcases hend with h | ⟨_, h⟩
        · rw [List.take_of_length_le (by rw [← HL.out]; exact h), List.take_of_length_le (by rw [← HL.out]; omega)]
        · rw [h])
      clear hlt
      rcases hend with h | ⟨h0, rfl⟩
      · have hd1 : decide (p < n) = false := decide_eq_false (by omega)
        go_wp2
        go_ret
        exact ⟨_, rfl, by rw [← HE.out]; exact HO.out, hbel⟩
      · have hd1 : decide (p < n) = true := decide_eq_true h0
        have hd2 : decide (p < p) = false := decide_eq_false (by omega)
        go_wp2
        go_ret
        exact ⟨_, rfl, by rw [← HE.out]; exact HO.out, hbel⟩
end Go.Proofs.Ytojjeogpggielaa
