/- Contract: play.Change. Taken out of the text Txn15. -/
import Derived.Test.YtcohheoahdbgmaaRefQ
import Derived.Test.YtcohheoahdbgmaaFldA
import Derived.Test.YtcohheoahdbgmaaPlay
import Derived.Deep.RegionHeld3
set_option linter.unusedVariables false
set_option linter.unusedSimpArgs false
namespace Go.Proofs.Ytcohheoahdbgmaa
open Go.RowKit

def cutS (s : ByteArray) (n : Nat) : ByteArray := s.extract 0 (min s.size n)

/-- A change that may be among so many tables, of any one. -/
def playChg (t : Int) (c : Chg) : Chg := ⟨modOf c.table t, if modOf c.key 31 = 30 then 1 + modOf c.key 1099511627776 else 1 + modOf c.key 12, c.gone, if c.gone = true then ⟨#[]⟩ else cutS c.val 32⟩

set_option maxRecDepth 100000 in
set_option maxHeartbeats 4000000 in
theorem playChange_any (c : Chg) (t : Int) (ht : 0 < t) (ht2 : t ≤ 9223372036854775807) (w : World) (hs : c.val.size ≤ maxLen) :
    Calls Try.prog 75 #[.agg #[.int .i64 c.table, .int .i64 c.key, .bool c.gone, .string c.val], .int .i64 t] w fun e w' => e = .returned (.agg #[.int .i64 (playChg t c).table, .int .i64 (playChg t c).key, .bool (playChg t c).gone, .string (playChg t c).val]) ∧ Below w.heap.size w w' := by
  obtain ⟨ct, ck, cg, cv⟩ := c
  have h12 := modOf_range ck 12 (by omega)
  have h31 := modOf_range ck 31 (by omega)
  have h40 := modOf_range ck 1099511627776 (by omega)
  obtain ⟨W, hW⟩ : ∃ W, W = (w.alloc (.cells #[.int .i64 ct, .int .i64 ck, .bool cg, .string cv] 77)).alloc (.cells #[.int .i64 0, .int .i64 0, .bool false, .string ⟨#[]⟩] 77) := ⟨_, rfl⟩
  have BW := Lib.hid (show Below w.heap.size w W by rw [hW]; exact ((Below.refl _ _).alloc (Nat.le_refl _) _).alloc (by simp) _)
  have K1 := Lib.hid ((Blk.new (w := w) (cs := #[.int .i64 ct, .int .i64 ck, .bool cg, .string cv]) (t := 77) rfl rfl).alloc (.cells #[.int .i64 0, .int .i64 0, .bool false, .string ⟨#[]⟩] 77))
  have K2 := Lib.hid (Blk.new (w := w.alloc (.cells #[.int .i64 ct, .int .i64 ck, .bool cg, .string cv] 77)) (cs := #[.int .i64 0, .int .i64 0, .bool false, .string ⟨#[]⟩]) (t := 77) rfl (n := w.heap.size + 1) (by simp))
  rw [← hW] at K1 K2
  have hWs : W.heap.size = w.heap.size + 2 := by rw [hW]; simp
  have HW := Lib.hid hW
  have HWS := Lib.hid hWs
  obtain ⟨k0, k1, k2, k3, kz⟩ := K1.out.c4
  have hwr : IntKind.i64.wrap (1 + modOf ck 12) = 1 + modOf ck 12 := IntWalk.i64_in _ (by omega)
  have HD := Lib.hid (show ∀ o, (W.alloc o).drew.cell? ⟨w.heap.size, 0, none⟩ = some (.int .i64 ct) ∧ (W.alloc o).drew.cell? ⟨w.heap.size, 1, none⟩ = some (.int .i64 ck) ∧ (W.alloc o).drew.cell? ⟨w.heap.size, 2, none⟩ = some (.bool cg) by intro o; obtain ⟨e0, e1, e2, _, _⟩ := (K1.out.alloc o).drew.c4; exact ⟨e0, e1, e2⟩)
  clear hW hWs
  go_enter Try.func75, Try.ntmps75
  go_wp2
  rw [← HW.out]
  go_region_held3 (fun w' => w'.cell? ⟨w.heap.size, 0, none⟩ = some (.int .i64 ct) ∧ w'.cell? ⟨w.heap.size, 1, none⟩ = some (.int .i64 ck) ∧ w'.cell? ⟨w.heap.size, 2, none⟩ = some (.bool cg)) (first | exact ⟨k0, k1, k2⟩ | exact HD.out _)
    (first
      | (go_at_call 17; (with_reducible refine (mod_any ct t _ ht ht2).mono ?_); rintro e w' ⟨rfl, rfl⟩)
      | (go_at_call 23; (with_reducible refine (big_any ck 12 _ (by omega) (by omega)).mono ?_); rintro e w' ⟨rfl, rfl⟩)
      | fail)
  all_goals
    clear hwr
    obtain ⟨X, hX⟩ : ∃ X, X = (W.alloc (.cells #[.int .i64 (modOf ct t), .int .i64 (1 + modOf ck 12), .bool cg, .string ⟨#[]⟩] 77)).drew := ⟨_, rfl⟩
    have X1 := Lib.hid (show Blk X w.heap.size [.int .i64 ct, .int .i64 ck, .bool cg, .string cv] by rw [hX]; exact (K1.out.alloc _).drew)
    have X2 := Lib.hid (show Blk X (w.heap.size + 1) [.int .i64 0, .int .i64 0, .bool false, .string ⟨#[]⟩] by rw [hX]; exact (K2.out.alloc _).drew)
    have X3 := Lib.hid (show Blk X W.heap.size [.int .i64 (modOf ct t), .int .i64 (1 + modOf ck 12), .bool cg, .string ⟨#[]⟩] by rw [hX]; exact (Blk.new rfl rfl).drew)
    have BX := Lib.hid (show Below w.heap.size w X by rw [hX]; exact below_of_drew0 (BW.out.alloc BW.out.size _))
    rw [← hX]
    obtain ⟨g, hg⟩ : ∃ g, g = W.heap.size := ⟨_, rfl⟩
    rw [← hg] at X3 ⊢
    have hgw : g = w.heap.size + 2 := by rw [hg]; exact HWS.out
    have HGW := Lib.hid hgw
    have hgb : w.heap.size ≤ g := by omega
    have hrb : w.heap.size ≤ w.heap.size + 1 := by omega
    have n1 : (w.heap.size = g) = False := by simp; omega
    have n2 : (g = w.heap.size) = False := by simp; omega
    have n3 : (w.heap.size + 1 = g) = False := by simp; omega
    have n4 : (g = w.heap.size + 1) = False := by simp; omega
    obtain ⟨s0, s1, s2, s3, sz⟩ := X1.out.c4
    obtain ⟨r0, r1, r2, r3, rz⟩ := X2.out.c4
    obtain ⟨t0, t1, t2, t3, tz⟩ := X3.out.c4
    clear hX hg hgw k0 k1 k2 k3 kz HD HW HWS K1 K2 BW
    by_cases hk : modOf ck 31 = 30
    · have HK := Lib.hid hk
      clear hk
      cases cg
      · have HF := Lib.hid (show playChg t ⟨ct, ck, false, cv⟩ = ⟨modOf ct t, 1 + modOf ck 1099511627776, false, cutS cv 32⟩ by unfold playChg; rw [if_pos HK.out, if_neg (by simp)])
        go_wp2_with (first
          | (go_at_call 23; (with_reducible refine (big_any ck 31 _ (by omega) (by omega)).mono ?_); rintro e w' ⟨rfl, rfl⟩; rw [HK.out])
          | (go_at_call 23; (with_reducible refine (big_any ck 1099511627776 _ (by omega) (by omega)).mono ?_); rintro e w' ⟨rfl, rfl⟩)
          | (go_at_call 95; (with_reducible refine (cut_any cv 32 32 rfl _ hs).mono ?_); rintro e w' ⟨rfl, rfl⟩)
          | fail)
        refine bodyPost_ret (by simp [results, Try.results75, go_sem, r0, r1, r2, r3, n1, n2, n3, n4]; try rfl) rfl ?_
        rw [HF.out]
        exact ⟨rfl, ((((((BX.out.setCell hgb _).setCell hgb _).setCell hrb _).setCell hrb _).setCell hrb _).setCell hrb _)⟩
      · have HF := Lib.hid (show playChg t ⟨ct, ck, true, cv⟩ = ⟨modOf ct t, 1 + modOf ck 1099511627776, true, ⟨#[]⟩⟩ by unfold playChg; rw [if_pos HK.out, if_pos rfl])
        go_wp2_with (first
          | (go_at_call 23; (with_reducible refine (big_any ck 31 _ (by omega) (by omega)).mono ?_); rintro e w' ⟨rfl, rfl⟩; rw [HK.out])
          | (go_at_call 23; (with_reducible refine (big_any ck 1099511627776 _ (by omega) (by omega)).mono ?_); rintro e w' ⟨rfl, rfl⟩)
          | (go_at_call 95; (with_reducible refine (cut_any cv 32 32 rfl _ hs).mono ?_); rintro e w' ⟨rfl, rfl⟩)
          | fail)
        refine bodyPost_ret (by simp [results, Try.results75, go_sem, r0, r1, r2, r3, n1, n2, n3, n4]; try rfl) rfl ?_
        rw [HF.out]
        exact ⟨rfl, (((((BX.out.setCell hgb _).setCell hrb _).setCell hrb _).setCell hrb _).setCell hrb _)⟩
    · have HK := Lib.hid hk
      have hk1 : (modOf ck 31 == 30) = false := by simpa using hk
      clear hk
      cases cg
      · have HF := Lib.hid (show playChg t ⟨ct, ck, false, cv⟩ = ⟨modOf ct t, 1 + modOf ck 12, false, cutS cv 32⟩ by unfold playChg; rw [if_neg HK.out, if_neg (by simp)])
        go_wp2_with (first
          | (go_at_call 23; (with_reducible refine (big_any ck 31 _ (by omega) (by omega)).mono ?_); rintro e w' ⟨rfl, rfl⟩)
          | (go_at_call 23; (with_reducible refine (big_any ck 1099511627776 _ (by omega) (by omega)).mono ?_); rintro e w' ⟨rfl, rfl⟩)
          | (go_at_call 95; (with_reducible refine (cut_any cv 32 32 rfl _ hs).mono ?_); rintro e w' ⟨rfl, rfl⟩)
          | fail)
        refine bodyPost_ret (by simp [results, Try.results75, go_sem, r0, r1, r2, r3, n1, n2, n3, n4]; try rfl) rfl ?_
        rw [HF.out]
        exact ⟨rfl, (((((BX.out.setCell hgb _).setCell hrb _).setCell hrb _).setCell hrb _).setCell hrb _)⟩
      · have HF := Lib.hid (show playChg t ⟨ct, ck, true, cv⟩ = ⟨modOf ct t, 1 + modOf ck 12, true, ⟨#[]⟩⟩ by unfold playChg; rw [if_neg HK.out, if_pos rfl])
        go_wp2_with (first
          | (go_at_call 23; (with_reducible refine (big_any ck 31 _ (by omega) (by omega)).mono ?_); rintro e w' ⟨rfl, rfl⟩)
          | (go_at_call 23; (with_reducible refine (big_any ck 1099511627776 _ (by omega) (by omega)).mono ?_); rintro e w' ⟨rfl, rfl⟩)
          | (go_at_call 95; (with_reducible refine (cut_any cv 32 32 rfl _ hs).mono ?_); rintro e w' ⟨rfl, rfl⟩)
          | fail)
        refine bodyPost_ret (by simp [results, Try.results75, go_sem, r0, r1, r2, r3, n1, n2, n3, n4]; try rfl) rfl ?_
        rw [HF.out]
        exact ⟨rfl, ((((BX.out.setCell hrb _).setCell hrb _).setCell hrb _).setCell hrb _)⟩

theorem playChg_wf {c : Chg} (t : Int) (ht : 0 < t) (ht2 : t ≤ 9223372036854775807) : (playChg t c).wf := by
  have h12 := modOf_range c.key 12 (by omega)
  have h40 := modOf_range c.key 1099511627776 (by omega)
  have htt := modOf_range c.table t ht
  refine ⟨by unfold I64 playChg; dsimp only; omega, by unfold I64 playChg; dsimp only; split <;> omega, ?_⟩
  unfold playChg cutS maxLen
  dsimp only
  split
  · exact Nat.zero_le _
  · rw [ByteArray.size_extract]; omega

theorem playChg_may {c : Chg} (t : Int) (ht : 0 < t) : mayChg (playChg t c) t = true := by
  have h12 := modOf_range c.key 12 (by omega)
  have h40 := modOf_range c.key 1099511627776 (by omega)
  have htt := modOf_range c.table t ht
  unfold mayChg playChg
  dsimp only
  refine decide_eq_true ⟨by omega, by omega, by split <;> omega, by split <;> omega, ?_, ?_⟩
  · split
    · exact Nat.zero_le _
    · unfold cutS; rw [ByteArray.size_extract]; omega
  · by_cases h : c.gone = true
    · right; rw [if_pos h]; rfl
    · left; simpa using h

end Go.Proofs.Ytcohheoahdbgmaa
