/- Contracts: play's Signal, Signals. -/
import Derived.Test.YtojjeogpggielaaTxn15
import Derived.Test.YtojjeogpggielaaMemB
set_option linter.unusedVariables false
set_option linter.unusedSimpArgs false
namespace Go.Proofs.Ytojjeogpggielaa
open Go.RowKit

def snapL : List UInt8 := [115, 110, 97, 112, 115, 104, 111, 116, 32]

/-- A signal that begins with byte b, or the text itself. -/
def sigOf (t : Nat) (b : Nat) : List UInt8 := snapL ++ [UInt8.ofNat (48 + b / 4 % t)] ++ (if b % 4 = 0 then [] else [32, UInt8.ofNat (49 + b / 16 % 8)])

def playSig (t : Nat) (s : ByteArray) : ByteArray :=
  if h : 0 < s.size then (if s[0].toNat % 4 = 3 then cutS s 40 else ⟨(sigOf t s[0].toNat).toArray⟩) else ⟨(snapL ++ [48]).toArray⟩

theorem one_byte (x : Nat) (h : x < 256) : (#[.int .u8 (x : Int)] : Array Value) = (byteVals [UInt8.ofNat x]).toArray := by
  have e1 : ((UInt8.ofNat x).toNat : Int) = (x : Int) := by rw [UInt8.toNat_ofNat']; omega
  rw [← e1]
  rfl

set_option maxRecDepth 100000 in
set_option maxHeartbeats 4000000 in
theorem playSignal_any (s : ByteArray) (t : Nat) (ti : Int) (hti : ti = (t : Int)) (ht : 0 < t) (ht2 : t ≤ 8) (w : World) (hs : s.size ≤ maxLen) :
    Calls Try.prog 134 #[.string s, .int .i64 ti] w fun e w' => e = .returned (.string (playSig t s)) ∧ Below w.heap.size w w' := by
  subst hti
  by_cases h0 : 0 < s.size
  · have hb : s[0].toNat < 256 := s[0].toNat_lt
    have hne : s.toList.isEmpty = false := by rw [str_empty]; exact beq_eq_false_iff_ne.2 (by omega)
    by_cases h3 : s[0].toNat % 4 = 3
    · have HF := Lib.hid (show playSig t s = cutS s 40 by unfold playSig; rw [dif_pos h0, if_pos h3])
      have H3 := Lib.hid h3
      have hd : ((((s[0].toNat : Nat) : Int) % (4 : Int)) == (3 : Int)) = true := beq_iff_eq.2 (by have h := congrArg Int.ofNat h3; simpa using h)
      clear h3
      go_enter Try.func134, Try.ntmps134
      go_wp2_with (first
        | (go_at_call 108; (with_reducible refine (cut_any s 40 40 rfl _ hs).mono ?_); rintro e w' ⟨rfl, rfl⟩)
        | fail)
      go_ret
      rw [HF.out]
      exact ⟨rfl, Below.refl _ _⟩
    · have HF := Lib.hid (show playSig t s = ⟨(sigOf t s[0].toNat).toArray⟩ by unfold playSig; rw [dif_pos h0, if_neg h3])
      have hd : (((s[0].toNat : Int) % 4) == 3) = false := beq_eq_false_iff_ne.2 (by omega)
      obtain ⟨b, hbe⟩ : ∃ b, b = s[0].toNat := ⟨_, rfl⟩
      have hq := Nat.mod_lt (b / 4) ht
      obtain ⟨q, hqe⟩ : ∃ q, q = b / 4 % t := ⟨_, rfl⟩
      obtain ⟨r, hre⟩ : ∃ r, r = b / 16 % 8 := ⟨_, rfl⟩
      have hq8 : q < 8 := by omega
      have hr8 : r < 8 := by omega
      have e1 : (s[0].toNat : Int) / 4 % (t : Int) = (q : Int) := by rw [hqe, hbe]; simp
      have e2 : (s[0].toNat : Int) / 16 % 8 = (r : Int) := by rw [hre, hbe]; simp
      have e3 : (48 + (q : Int)) % 256 = 48 + (q : Int) := by omega
      have e4 : (49 + (r : Int)) % 256 = 49 + (r : Int) := by omega
      have HB := Lib.hid hbe
      have HSG : Hid (sigOf t s[0].toNat = snapL ++ [UInt8.ofNat (48 + q)] ++ (if b % 4 = 0 then [] else [32, UInt8.ofNat (49 + r)])) := Lib.hid (by unfold sigOf; rw [← hbe, ← hqe, ← hre])
      obtain ⟨x, hx⟩ : ∃ x, x = UInt8.ofNat (48 + q) := ⟨_, rfl⟩
      obtain ⟨y, hy⟩ : ∃ y, y = UInt8.ofNat (49 + r) := ⟨_, rfl⟩
      have hb1 := one_byte (48 + q) (by omega)
      have hb2 := one_byte (49 + r) (by omega)
      rw [← hx] at hb1 HSG
      rw [← hy] at hb2 HSG
      have hcv := run_str_of (P := Try.prog) (c := 1) 84 9 5 Try.underlying84 Try.underlying5 Try.underlying9 (IsSl.newBytes (S := fun _ => True) (t := 5) (w := w) [x] (cs := #[.int .u8 (48 + (q : Int))]) (by rw [← hb1]; simp) (n := 1) rfl trivial)
      have hcv2 := run_str_of (P := Try.prog) (c := 1) 84 9 5 Try.underlying84 Try.underlying5 Try.underlying9 (IsSl.newBytes (S := fun _ => True) (t := 5) (w := w.alloc (.cells #[.int .u8 (48 + (q : Int))] 5)) [y] (cs := #[.int .u8 (49 + (r : Int))]) (by rw [← hb2]; simp) (n := 1) rfl trivial)
      rw [show (w.alloc (.cells #[.int .u8 (48 + (q : Int))] 5)).heap.size = w.heap.size + 1 by simp] at hcv2
      clear hb1 hb2 hx hy hqe hre hbe h3
      by_cases h4 : s[0].toNat % 4 = 0
      · have hd4 : decide ((0 : Int) < ((s[0].toNat : Nat) : Int) % (4 : Int)) = false := decide_eq_false (by omega)
        have HS4 := Lib.hid (show sigOf t s[0].toNat = snapL ++ [x] by rw [HSG.out, HB.out, if_pos h4, List.append_nil])
        clear h4
        go_enter Try.func134, Try.ntmps134
        go_wp2
        go_ret
        rw [HF.out, HS4.out]
        refine ⟨?_, by repeat first | exact Below.refl _ _ | refine Below.alloc ?_ (by simp) _⟩
        refine congrArg (fun z => Ending.returned (.string z)) (ByteArray.ext ?_)
        simp [snapL]
      · have hd4 : decide ((0 : Int) < ((s[0].toNat : Nat) : Int) % (4 : Int)) = true := decide_eq_true (by omega)
        have HS4 := Lib.hid (show sigOf t s[0].toNat = snapL ++ [x] ++ [32, y] by rw [HSG.out, HB.out, if_neg h4])
        clear h4
        go_enter Try.func134, Try.ntmps134
        go_wp2
        go_ret
        rw [HF.out, HS4.out]
        refine ⟨?_, by repeat first | exact Below.refl _ _ | refine Below.alloc ?_ (by simp) _⟩
        refine congrArg (fun z => Ending.returned (.string z)) (ByteArray.ext ?_)
        simp [snapL]
  · have h0' : s.size = 0 := by omega
    have HF := Lib.hid (show playSig t s = ⟨(snapL ++ [48]).toArray⟩ by unfold playSig; rw [dif_neg h0])
    obtain ⟨⟨l⟩⟩ := s
    have hl : l = [] := List.eq_nil_of_length_eq_zero h0'
    subst hl
    go_enter Try.func134, Try.ntmps134
    go_wp2
    go_ret
    rw [HF.out]
    exact ⟨rfl, Below.refl _ _⟩

theorem playSig_size (t : Nat) (s : ByteArray) : (playSig t s).size ≤ 40 := by
  unfold playSig
  split
  · split
    · unfold cutS; rw [ByteArray.size_extract]; omega
    · unfold sigOf snapL
      show (List.toArray _).size ≤ 40
      split <;> simp
  · decide

def playSigs (t : Nat) (most : Nat) (l : List ByteArray) : List ByteArray := (l.take most).map (playSig t)

set_option maxRecDepth 100000 in
set_option maxHeartbeats 4000000 in
theorem playSignals_any (A : Option Addr) (n c : Nat) (l : List ByteArray) (t : Nat) (ti : Int) (hti : ti = (t : Int)) (ht : 0 < t) (ht2 : t ≤ 8) (most : Nat) (mi : Int) (hmi : mi = (most : Int)) (hm2 : most ≤ 1000) (w : World) (h : IsSl strRep w (· < w.heap.size) A n l) :
    Calls Try.prog 119 #[.slice A n c, .int .i64 ti, .int .i64 mi] w fun e w' => ∃ v, e = .returned v ∧ Own strRep w' w.heap.size (fun _ => False) 9 v (playSigs t most l) ∧ Below w.heap.size w w' := by
  subst hmi hti
  obtain ⟨i0, hi, hz0, hz1, hz2⟩ := info_parts (show (Try.prog.info? 9).map (fun i => (i.zero, i.size, i.bytes)) = some (some (.string ByteArray.empty), 1, 16) by kernel_rfl)
  have H := Lib.hid h
  have HL := Lib.hid h.len
  clear h
  go_enter Try.func119, Try.ntmps119
  go_wp2_with fail
  go_loopw [7, 8] (fun v i wr => ∃ p : Nat, i = .int .i64 p ∧ p ≤ n ∧ p ≤ most ∧ Own strRep wr w.heap.size (fun _ => False) 9 v ((l.take p).map (playSig t)) ∧ Below w.heap.size w wr) (fun _ i _ => most - (intOf i).toNat)
  case atStart => exact ⟨0, rfl, Nat.zero_le _, Nat.zero_le _, by simpa using Own.nil (R := strRep) w w.heap.size (fun _ => False) (fun _ h => h.elim) _ none, Below.refl _ _⟩
  case round =>
    obtain ⟨p, rfl, hpn, hpm, hown, hbel⟩ := hrel
    have HO := Lib.hid hown
    have hsz := hbel.size
    obtain ⟨B, hB⟩ : ∃ B, B = (l.take p).map (playSig t) := ⟨_, rfl⟩
    rw [← hB] at HO
    have hBl : B.length ≤ 1000 := by rw [hB, List.length_map, List.length_take]; omega
    have HB := Lib.hid hB
    clear hown hB
    by_cases hlt : p < n ∧ p < most
    · obtain ⟨h1, h2⟩ := hlt
      obtain ⟨b0, off, x, rfl, hbS, hx, hxs, c0⟩ := H.out.str h1 (fun p hp => hbel.cell hp)
      have hd1 : decide (p < n) = true := decide_eq_true h1
      have hd2 : decide (p < most) = true := decide_eq_true h2
      have HSN := Lib.hid (show (l.take (p + 1)).map (playSig t) = (l.take p).map (playSig t) ++ [playSig t x] by rw [take_snoc hx, List.map_append]; rfl)
      have HRW := Lib.hid (show (playSig t x).size ≤ maxLen by have := playSig_size t x; unfold maxLen; omega)
      clear hx
      go_wp2_with (first
        | (go_at_call 134; (with_reducible refine (playSignal_any x t _ rfl ht ht2 _ hxs).mono ?_); rintro e w3 ⟨rfl, bel3⟩; have OW3 := Lib.hid (HO.out.below bel3); have BW3 := Lib.hid (hbel.trans (bel3.mono hsz)); have hs3 := BW3.out.size; clear bel3)
        | (at_builtin; refine wpList_append_Own _ rfl _ _ 66 rfl w.heap.size 9 i0 _ 16 Try.underlying66 hi hz0 hz1 hz2 rfl (R := strRep) (S := fun _ => False) (l := B) (l' := [playSig t x]) u7 rfl (OW3.out.alloc _) _ 1 1 rfl ?_ (by simp only [maxLen]; omega) (by omega) (by omega) (by simp; omega) ?_; exact Src.new (cs := [.string (playSig t x)]) ⟨rfl, HRW.out⟩; intro v5 w5 own5 gr5 at5; have OW5 := Lib.hid own5; have BW5 := Lib.hid ((BW3.out.alloc hs3 _).grown gr5 (by simp; omega) (fun g hg => OW3.out.row_ge hg)); clear own5 gr5 at5)
        | fail)
      go_roundw
      case rel => exact ⟨p + 1, by go_num, by omega, by omega, by rw [HSN.out, ← HB.out]; exact OW5.out, BW5.out⟩
      case measure => simp [intOf]; omega
    · have hend : n ≤ p ∨ (p < n ∧ p = most) := by omega
      have HE := Lib.hid (show B = playSigs t most l by
        rw [HB.out]; unfold playSigs
        rcases hend with h | ⟨_, h⟩
        · rw [List.take_of_length_le (by rw [← HL.out]; exact h), List.take_of_length_le (by rw [← HL.out]; omega)]
        · rw [h])
      clear hlt
      rcases hend with h | ⟨h0, rfl⟩
      · have hd1 : decide (p < n) = false := decide_eq_false (by omega)
        go_wp2
        go_ret
        exact ⟨_, rfl, by rw [← HE.out]; exact HO.out, hbel⟩
      · have hd1 : decide (p < n) = true := decide_eq_true h0
        have hd2 : decide (p < p) = false := decide_eq_false (by omega)
        go_wp2
        go_ret
        exact ⟨_, rfl, by rw [← HE.out]; exact HO.out, hbel⟩
end Go.Proofs.Ytojjeogpggielaa
