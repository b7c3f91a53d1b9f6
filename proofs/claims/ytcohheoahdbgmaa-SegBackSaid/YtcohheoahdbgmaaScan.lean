/- Contracts: rec.Scan and the reference's Scan. -/
import Derived.Test.YtcohheoahdbgmaaRec7
import Derived.Test.YtcohheoahdbgmaaRecQ
set_option linter.unusedVariables false
set_option maxRecDepth 100000
namespace Go.Proofs.Ytcohheoahdbgmaa
open Go.RowKit

theorem info_bytes : (Try.prog.info? 35).map (fun i => (i.zero, i.size, i.bytes)) = some (some (.slice none 0 0), 1, 24) := by kernel_rfl

theorem Own.row_out {α : Type} {R : Rep α} {w : World} {base : Nat} {S : Nat → Prop} {e : TypeId} {v : Value} {l : List α} (h : Own R w base S e v l) {g : Nat} (hg : rowOf v = some g) : ¬ S g := by
  rcases h.2 with ⟨A, rfl, rfl⟩ | ⟨g', cap, cur, xss, rfl, hb, hS, _⟩
  · cases A <;> simp [rowOf] at hg
  · cases cap with
    | zero => simp [rowOf] at hg
    | succ c => simp only [rowOf, Option.some.injEq] at hg; exact hg ▸ hS

/-- The owned list, and beside it what has been laid since. -/
theorem Own.beside {α : Type} {R : Rep α} {w w' : World} {base : Nat} {S : Nat → Prop} {e : TypeId} {v : Value} {l : List α} (h : Own R w base S e v l) (hb : Below w.heap.size w w') :
    Own R w' base (fun x => S x ∨ (w.heap.size ≤ x ∧ x < w'.heap.size)) e v l :=
  (h.below hb).weak (fun _ h => .inl h) (fun x hx => hx.elim (fun hs => Nat.lt_of_lt_of_le (h.1 x hs) hb.size) (fun hs => hs.2))
    (fun g hg hx => hx.elim (fun hs => h.row_out hg hs) (fun hs => Nat.lt_irrefl _ (Nat.lt_of_lt_of_le (h.row_lt hg) hs.1)))

/-- One slice, just laid into a block of its own. -/
theorem Src.slice1 {α : Type} {R : Rep α} {w : World} {S : Nat → Prop} {t : TypeId} {A : Option Addr} {n c : Nat} {l : List α} (h : IsSl R w S A n l) (h1 : n ≤ c) (h2 : c ≤ maxLen) (hS : ∀ b, S b → b < w.heap.size) :
    Src (sliceRep R) (w.alloc (.cells #[.slice A n c] t)) S (some ⟨w.heap.size, 0, none⟩) 1 [l] :=
  Src.new (cs := [.slice A n c]) ⟨A, n, c, rfl, h.keep (fun q hq => ((Below.refl w.heap.size w).alloc (Nat.le_refl _) _).cell (hS _ hq)), h1, h2⟩

set_option maxRecDepth 4000 in
set_option maxHeartbeats 2000000 in
theorem scan_any (A : Option Addr) (n c : Nat) (b : List UInt8) (w : World) (h : IsSl byteRep w (· < w.heap.size) A n b) (h1 : n ≤ c) (h2 : c ≤ maxLen) (hz : n ≤ 35184372088832) :
    Calls Try.prog 70 #[.slice A n c] w fun e w' => ∃ v S, e = .returned (.tuple #[v, .int .i64 ((scanL b).2 : Int)]) ∧ Own (sliceRep byteRep) w' w.heap.size S 35 v (scanL b).1 ∧ Below w.heap.size w w' := by
  have H := Lib.hid h
  have HL := Lib.hid h.len
  have hnm : n ≤ 9223372036854775807 := by omega
  clear h
  obtain ⟨i0, hi, hz0, hz1, hz2⟩ := info_parts info_bytes
  go_enter Try.func70, Try.ntmps70
  go_wp2_with fail
  go_loopw [4, 5] (fun v i wr => ∃ (p : Nat) (a : List (List UInt8)) (S : Nat → Prop), i = .int .i64 p ∧ p ≤ n ∧ a.length * 8 ≤ p ∧ scanL b = (a ++ (scanL (b.drop p)).1, p + (scanL (b.drop p)).2) ∧ Own (sliceRep byteRep) wr w.heap.size S 35 v a ∧ Below w.heap.size w wr) (fun _ i _ => n - (intOf i).toNat)
  case atStart => exact ⟨0, [], fun _ => False, rfl, Nat.zero_le _, by simp, by simp, Own.nil _ _ _ (fun _ h => h.elim) _ _, Below.refl _ _⟩
  case round =>
    obtain ⟨p, a, S, rfl, hp, ha8, hsc, hown, hbel⟩ := hrel
    have SC := Lib.hid hsc
    have OWN := Lib.hid hown
    clear hsc hown
    have hpc : p ≤ c := by omega
    have slp := ((H.out.below hbel).more hbel.size).cutFrom hp h1
    rw [show p * byteRep.size = p from Nat.mul_one p] at slp
    have hcm : c - p ≤ maxLen := by omega
    have hncp : n - p ≤ c - p := by omega
    by_cases hE : takeE (b.drop p) = 0
    · obtain ⟨k8, kl⟩ := take_le hE
      rw [List.length_drop, ← HL.out] at kl
      have hcp : ¬ c = p := by omega
      rw [if_neg hcp] at slp
      have SLP := Lib.hid slp
      have SG := Lib.hid (scan_good hE)
      have HE := Lib.hid hE
      obtain ⟨k, hk⟩ : ∃ k, k = takeK (b.drop p) := ⟨_, rfl⟩
      have HK := Lib.hid hk
      rw [← hk] at k8 kl
      clear hE hk slp
      have hpk : p + k ≤ 9223372036854775807 := by omega
      go_wp2_with (first
        | (go_at_call 94; (with_reducible refine (take_any (Option.map (fun x => x.add p) A) (n - p) (c - p) (b.drop p) _ SLP.out hncp hcm).mono ?_); rintro e w2 ⟨v2, rfl, own2, bel2⟩; rw [HE.out, ← HK.out]; obtain ⟨A2, c2, rfl, hc21, hc22, sl2⟩ := own2.isSl (S' := fun x => wr.heap.size ≤ x ∧ x < w2.heap.size) (fun _ h => h.elim) (fun _ h1 h2 => ⟨h1, h2⟩); have SL2 := Lib.hid sl2; have OWN2 := Lib.hid (OWN.out.beside bel2); have BEL2 := Lib.hid (hbel.trans (bel2.mono hbel.size)); have hs2 := bel2.size; clear own2 sl2 bel2)
        | (at_builtin; refine wpList_append_Own _ rfl (.tmp 21) (.tmp 23) 48 rfl w.heap.size 35 i0 _ 24 Try.underlying48 hi hz0 hz1 hz2 rfl (R := sliceRep byteRep) (S := fun x => S x ∨ (wr.heap.size ≤ x ∧ x < w2.heap.size)) (l := a) (l' := [takeV (b.drop p)]) u4 rfl (OWN2.out.alloc _) _ 1 _ rfl (Src.slice1 (SL2.out.weak fun _ h => .inr h) hc21 hc22 OWN2.out.1) (by simp only [maxLen]; omega) (by omega) (by omega) (by have := BEL2.out.size; simp; omega) ?_; intro v3 w3 own3 gr3 at3; have BEL3 := Lib.hid ((BEL2.out.alloc BEL2.out.size _).grown gr3 (by have := BEL2.out.size; simp; omega) (fun k hk => OWN2.out.row_ge hk)); clear gr3 at3; have OWN3 := Lib.hid own3; clear own3)
        | fail)
      go_roundw
      case rel =>
        refine ⟨p + k, a ++ [takeV (b.drop p)], _, by go_num, by omega, by simp; omega, ?_, OWN3.out, BEL3.out⟩
        rw [SC.out, SG.out, ← HK.out, List.drop_drop]
        simp [Nat.add_assoc]
      case measure => simp [intOf]; omega
    · have hne : (takeE (b.drop p) == 0) = false := by simpa using hE
      have SG := Lib.hid (scan_bad hE)
      by_cases hcp : c = p
      all_goals
        first | rw [if_pos hcp] at slp | rw [if_neg hcp] at slp
        have SLP := Lib.hid slp
        clear slp
        go_wp2_with (first
          | (go_at_call 94; (with_reducible refine (take_any A (n - p) 0 (b.drop p) _ SLP.out (by omega) (Nat.zero_le _)).mono ?_); rintro e w2 ⟨v2, rfl, own2, bel2⟩; have OWN2 := Lib.hid (OWN.out.below bel2); have BEL2 := Lib.hid (hbel.trans (bel2.mono hbel.size)); clear own2 bel2)
          | (go_at_call 94; (with_reducible refine (take_any (Option.map (fun x => x.add p) A) (n - p) (c - p) (b.drop p) _ SLP.out hncp hcm).mono ?_); rintro e w2 ⟨v2, rfl, own2, bel2⟩; have OWN2 := Lib.hid (OWN.out.below bel2); have BEL2 := Lib.hid (hbel.trans (bel2.mono hbel.size)); clear own2 bel2)
          | fail)
        go_ret2
        refine ⟨u4, S, ?_, ?_, BEL2.out⟩
        · rw [SC.out, SG.out]; simp
        · rw [SC.out, SG.out, List.append_nil]; exact OWN2.out
set_option maxRecDepth 4000 in
set_option maxHeartbeats 2000000 in
theorem refscan_any (A : Option Addr) (n c : Nat) (b : List UInt8) (w : World) (h : IsSl byteRep w (· < w.heap.size) A n b) (h1 : n ≤ c) (h2 : c ≤ maxLen) (hz : n ≤ 35184372088832) :
    Calls Try.prog 93 #[.slice A n c] w fun e w' => ∃ v S, e = .returned (.tuple #[v, .int .i64 ((scanL b).2 : Int)]) ∧ Own (sliceRep byteRep) w' w.heap.size S 35 v (scanL b).1 ∧ Below w.heap.size w w' := by
  have H := Lib.hid h
  have HL := Lib.hid h.len
  have hnm : n ≤ 9223372036854775807 := by omega
  clear h
  obtain ⟨i0, hi, hz0, hz1, hz2⟩ := info_parts info_bytes
  go_enter Try.func93, Try.ntmps93
  go_wp2_with fail
  go_loopw [4, 5] (fun v i wr => ∃ (p : Nat) (a : List (List UInt8)) (S : Nat → Prop), i = .int .i64 p ∧ p ≤ n ∧ a.length * 8 ≤ p ∧ scanL b = (a ++ (scanL (b.drop p)).1, p + (scanL (b.drop p)).2) ∧ Own (sliceRep byteRep) wr w.heap.size S 35 v a ∧ Below w.heap.size w wr) (fun _ i _ => n - (intOf i).toNat)
  case atStart => exact ⟨0, [], fun _ => False, rfl, Nat.zero_le _, by simp, by simp, Own.nil _ _ _ (fun _ h => h.elim) _ _, Below.refl _ _⟩
  case round =>
    obtain ⟨p, a, S, rfl, hp, ha8, hsc, hown, hbel⟩ := hrel
    have SC := Lib.hid hsc
    have OWN := Lib.hid hown
    clear hsc hown
    have hpc : p ≤ c := by omega
    by_cases hpn : p < n
    · have slp := ((H.out.below hbel).more hbel.size).cutFrom hp h1
      rw [show p * byteRep.size = p from Nat.mul_one p] at slp
      have hcm : c - p ≤ maxLen := by omega
      have hncp : n - p ≤ c - p := by omega
      by_cases hE : takeE (b.drop p) = 0
      · obtain ⟨k8, kl⟩ := take_le hE
        rw [List.length_drop, ← HL.out] at kl
        have hcp : ¬ c = p := by omega
        rw [if_neg hcp] at slp
        have SLP := Lib.hid slp
        have SG := Lib.hid (scan_good hE)
        have HE := Lib.hid hE
        obtain ⟨k, hk⟩ : ∃ k, k = takeK (b.drop p) := ⟨_, rfl⟩
        have HK := Lib.hid hk
        rw [← hk] at k8 kl
        clear hE hk slp
        have hpk : p + k ≤ 9223372036854775807 := by omega
        go_wp2_with (first
          | (go_at_call 101; (with_reducible refine (reftake_any (Option.map (fun x => x.add p) A) (n - p) (c - p) (b.drop p) _ SLP.out hncp hcm).mono ?_); rintro e w2 ⟨v2, rfl, own2, bel2⟩; rw [HE.out, ← HK.out]; obtain ⟨A2, c2, rfl, hc21, hc22, sl2⟩ := own2.isSl (S' := fun x => wr.heap.size ≤ x ∧ x < w2.heap.size) (fun _ h => h.elim) (fun _ h1 h2 => ⟨h1, h2⟩); have SL2 := Lib.hid sl2; have OWN2 := Lib.hid (OWN.out.beside bel2); have BEL2 := Lib.hid (hbel.trans (bel2.mono hbel.size)); have hs2 := bel2.size; clear own2 sl2 bel2)
          | (at_builtin; refine wpList_append_Own _ rfl (.tmp 25) (.tmp 27) 48 rfl w.heap.size 35 i0 _ 24 Try.underlying48 hi hz0 hz1 hz2 rfl (R := sliceRep byteRep) (S := fun x => S x ∨ (wr.heap.size ≤ x ∧ x < w2.heap.size)) (l := a) (l' := [takeV (b.drop p)]) u4 rfl (OWN2.out.alloc _) _ 1 _ rfl (Src.slice1 (SL2.out.weak fun _ h => .inr h) hc21 hc22 OWN2.out.1) (by simp only [maxLen]; omega) (by omega) (by omega) (by have := BEL2.out.size; simp; omega) ?_; intro v3 w3 own3 gr3 at3; have BEL3 := Lib.hid ((BEL2.out.alloc BEL2.out.size _).grown gr3 (by have := BEL2.out.size; simp; omega) (fun k hk => OWN2.out.row_ge hk)); clear gr3 at3; have OWN3 := Lib.hid own3; clear own3)
          | fail)
        go_roundw
        case rel =>
          refine ⟨p + k, a ++ [takeV (b.drop p)], _, by go_num, by omega, by simp; omega, ?_, OWN3.out, BEL3.out⟩
          rw [SC.out, SG.out, ← HK.out, List.drop_drop]
          simp [Nat.add_assoc]
        case measure => simp [intOf]; omega
      · have hne : (takeE (b.drop p) == 0) = false := by simpa using hE
        have SG := Lib.hid (scan_bad hE)
        have hcp : ¬ c = p := by omega
        all_goals
          first | rw [if_pos hcp] at slp | rw [if_neg hcp] at slp
          have SLP := Lib.hid slp
          clear slp
          go_wp2_with (first
            | (go_at_call 101; (with_reducible refine (reftake_any A (n - p) 0 (b.drop p) _ SLP.out (by omega) (Nat.zero_le _)).mono ?_); rintro e w2 ⟨v2, rfl, own2, bel2⟩; have OWN2 := Lib.hid (OWN.out.below bel2); have BEL2 := Lib.hid (hbel.trans (bel2.mono hbel.size)); clear own2 bel2)
            | (go_at_call 101; (with_reducible refine (reftake_any (Option.map (fun x => x.add p) A) (n - p) (c - p) (b.drop p) _ SLP.out hncp hcm).mono ?_); rintro e w2 ⟨v2, rfl, own2, bel2⟩; have OWN2 := Lib.hid (OWN.out.below bel2); have BEL2 := Lib.hid (hbel.trans (bel2.mono hbel.size)); clear own2 bel2)
            | fail)
          go_ret2
          refine ⟨u4, S, ?_, ?_, BEL2.out⟩
          · rw [SC.out, SG.out]; simp
          · rw [SC.out, SG.out, List.append_nil]; exact OWN2.out
    · obtain rfl : p = n := by omega
      have SE := Lib.hid (show scanL (b.drop p) = ([], 0) by rw [List.drop_eq_nil_of_le (by rw [← HL.out]; exact Nat.le_refl _)]; exact scan_bad (by rw [takeE_short (by simp)]; omega))
      go_wp2_with fail
      go_ret2
      refine ⟨u4, S, ?_, ?_, hbel⟩
      · rw [SC.out, SE.out]; simp
      · rw [SC.out, SE.out, List.append_nil]; exact OWN.out
end Go.Proofs.Ytcohheoahdbgmaa
