/- Rows put one behind the other, and read behind a key: the reference's Put and After. -/
import Derived.Test.YtmnjjmgdeiejkaaCur
import Derived.Lib.Hide
namespace Go.Proofs.Ytmnjjmgdeiejkaa
open Go.RowKit

/-- Where a key stands, or would stand. -/
def posOf : List Row → Int → Nat
  | [], _ => 0
  | r :: t, k => if r.key < k then posOf t k + 1 else 0

theorem posOf_le : ∀ (l : List Row) (k : Int), posOf l k ≤ l.length
  | [], _ => Nat.le_refl _
  | r :: t, k => by
    unfold posOf
    split
    · have := posOf_le t k
      simp; omega
    · simp

theorem posOf_lt : ∀ {l : List Row} {k : Int} {j : Nat} {x : Row}, l[j]? = some x → j < posOf l k → x.key < k
  | [], _, _, _, h, _ => by simp at h
  | r :: t, k, j, x, h, hj => by
    unfold posOf at hj
    split at hj
    · match j, h, hj with
      | 0, h, _ =>
        obtain rfl : r = x := by simpa using h
        assumption
      | j + 1, h, hj => exact posOf_lt (l := t) (by simpa using h) (by omega)
    · omega

theorem posOf_at : ∀ {l : List Row} {k : Int} {x : Row}, l[posOf l k]? = some x → ¬ x.key < k
  | [], _, _, h => by simp [posOf] at h
  | r :: t, k, x, h => by
    unfold posOf at h
    split at h
    · exact posOf_at (l := t) (by simpa using h)
    · obtain rfl : r = x := by simpa using h
      assumption

/-- A place up to which all are below, and at which it is not so, is the place. -/
theorem posOf_step {l : List Row} {k : Int} {p : Nat} {x : Row} (hp : p ≤ posOf l k) (hx : l[p]? = some x) (hlt : x.key < k) : p + 1 ≤ posOf l k := by
  rcases Nat.lt_or_ge p (posOf l k) with h | h
  · exact h
  · obtain rfl : p = posOf l k := by omega
    exact absurd hlt (posOf_at hx)

theorem posOf_stop {l : List Row} {k : Int} {p : Nat} {x : Row} (hp : p ≤ posOf l k) (hx : l[p]? = some x) (hge : ¬ x.key < k) : p = posOf l k := by
  rcases Nat.lt_or_ge p (posOf l k) with h | h
  · exact absurd (posOf_lt hx h) hge
  · omega

/-- Rows with one put. -/
def putL (l : List Row) (key : Int) (val : ByteArray) : List Row :=
  (l.take (posOf l key) ++ [⟨key, val⟩]) ++ l.drop (match l[posOf l key]? with | some x => if x.key = key then posOf l key + 1 else posOf l key | none => posOf l key)

/-- Was there none? -/
def putB (l : List Row) (key : Int) : Bool := match l[posOf l key]? with | some x => !(x.key == key) | none => true

theorem info_row : (Try.prog.info? 32).map (fun i => (i.zero, i.size, i.bytes)) = some (some (.agg #[.int .i64 0, .string ByteArray.empty]), 2, 24) := by kernel_rfl

theorem putL_at {l : List Row} {key : Int} {val : ByteArray} {x : Row} (h : l[posOf l key]? = some x) (hk : (x.key == key) = true) :
    putL l key val = (l.take (posOf l key) ++ [⟨key, val⟩]) ++ l.drop (posOf l key + 1) ∧ putB l key = false := by
  have hk' : x.key = key := by simpa using hk
  constructor
  · unfold putL; rw [h]; simp only [hk', if_true]
  · unfold putB; rw [h]; simp [hk']

theorem putL_new {l : List Row} {key : Int} {val : ByteArray} {x : Row} (h : l[posOf l key]? = some x) (hk : (x.key == key) = false) :
    putL l key val = (l.take (posOf l key) ++ [⟨key, val⟩]) ++ l.drop (posOf l key) ∧ putB l key = true := by
  have hk' : ¬ x.key = key := by simpa using hk
  constructor
  · unfold putL; rw [h]; simp only [hk', if_false]
  · unfold putB; rw [h]; simp [hk']

theorem putL_end {l : List Row} {key : Int} {val : ByteArray} (h : posOf l key = l.length) :
    putL l key val = (l.take (posOf l key) ++ [⟨key, val⟩]) ++ l.drop (posOf l key) ∧ putB l key = true := by
  have h' : l[posOf l key]? = none := by rw [List.getElem?_eq_none_iff]; omega
  constructor
  · unfold putL; rw [h']
  · unfold putB; rw [h']

set_option maxHeartbeats 1000000 in
theorem put_any (A : Option Addr) (n c : Nat) (l : List Row) (key : Int) (val : ByteArray) (w : World) (h : IsSl rowRep w (· < w.heap.size) A n l) (hn : n ≤ 1000000) (hnc : n ≤ c) (hcm : c ≤ maxLen) (hkey : I64 key) (hval : val.size ≤ maxLen) :
    Calls Try.prog 20 #[.slice A n c, .int .i64 key, .string val] w fun e w' => ∃ v, e = .returned (.tuple #[v, .bool (putB l key)]) ∧ Own rowRep w' w.heap.size (fun _ => False) 32 v (putL l key val) ∧ Below w.heap.size w w' := by
  obtain ⟨i0, hi, hz0, hz1, hz2⟩ := info_parts info_row
  have hle := posOf_le l key
  have hlen := h.len
  have HL := Lib.hid hlen
  rw [← hlen] at hle
  clear hlen
  unfold maxLen at hcm
  go_enter Try.func20, Try.ntmps20
  go_wp2
  go_loop [8] (fun i => ∃ p : Nat, i = .int .i64 p ∧ p ≤ n ∧ p ≤ posOf l key) (fun i => n - (intOf i).toNat)
  case atStart => exact ⟨0, rfl, Nat.zero_le _, Nat.zero_le _⟩
  case round =>
    obtain ⟨p, rfl, hpn, hpp⟩ := hrel
    have hb0 : Below w.heap.size w (w.alloc (.cells #[] 32)) := (Below.refl _ _).alloc (Nat.le_refl _) _
    by_cases hlt : p < n
    · obtain ⟨b, off, x, cs, rfl, hbS, hx, ⟨rfl, _⟩, hc⟩ := h.at_ hlt
      have hc0 : w.cell? ⟨b, off + p * 2, none⟩ = some (.int .i64 x.key) := hc 0 _ rfl
      have HC := Lib.hid hc
      clear hc
      by_cases hk : x.key < key
      · have hst := posOf_step hpp hx hk
        clear h hx
        go_wp2
        go_round
        case rel => exact ⟨p + 1, by go_num, by omega, hst⟩
        case measure => simp [intOf]; omega
      · have hst := posOf_stop hpp hx hk
        have hk2 : key ≤ x.key := by omega
        rw [hst] at hx
        have HX := Lib.hid hx
        have HS := Lib.hid hst
        clear hst hpp hk hx
        have hcp : ¬ c = p := by omega
        cases hkk : (x.key == key) with
        | true =>
          go_wp2_with (first
            | (at_builtin; refine wpList_append_Own _ rfl (.tmp 25) (.tmp 28) 22 rfl w.heap.size 32 i0 _ 24 Try.underlying22 hi hz0 hz1 hz2 rfl (R := rowRep) (S := fun _ => False) (l := []) (l' := l.take p) (.slice (some ⟨w.heap.size, 0, none⟩) 0 0) rfl (Own.nil _ _ _ (fun _ h => h.elim) _ _) _ p _ rfl ?_ (by simp [maxLen]; omega) (by simp; omega) (by omega) (by simp) ?_; exact IsSl.srcF flat_row (h.to_ hpn (by intro hlt2 b' o' hA; first | (exfalso; omega) | (cases hA; first | rfl | (rw [if_neg (by omega)]; done) | (rw [if_neg (by omega)]; rfl) | (rw [if_neg (by omega)]; simp [add_none]; done) | (simp [add_none]; done)))) hb0; intro v1 w1 own1 gr1 at1; have hb1 := hb0.grown gr1 (by simp) (by intro k hk; simp [rowOf] at hk); simp only [List.nil_append] at own1; clear gr1 at1)
            | (at_builtin; refine wpList_append_Own _ rfl (.tmp 30) (.tmp 34) 22 rfl w.heap.size 32 i0 _ 24 Try.underlying22 hi hz0 hz1 hz2 rfl (R := rowRep) (S := fun _ => False) (l' := [⟨key, val⟩]) v1 rfl (own1.alloc _) _ 1 _ rfl (Src.new ⟨rfl, hkey, hval⟩) (by simp [maxLen]; omega) (by simp; omega) (by omega) (by have := hb1.size; simp; omega) ?_; intro v2 w2 own2 gr2 at2; have hb2 := (hb1.alloc hb1.size _).grown gr2 (by have := hb1.size; simp; omega) (fun k hk => own1.row_ge hk); have hc2 := (hb2.cell (p := ⟨b, off + p * 2, none⟩) hbS).trans hc0; clear gr2 at2)
            | (at_builtin; refine wpList_append_Own _ rfl (.tmp 49) (.tmp 53) 22 rfl w.heap.size 32 i0 _ 24 Try.underlying22 hi hz0 hz1 hz2 rfl (R := rowRep) (S := fun _ => False) (l' := l.drop (p + 1)) v2 rfl own2 _ (n - (p + 1)) _ rfl ?_ (by simp [maxLen]; omega) (by simp; omega) (by omega) hb2.size ?_; exact IsSl.srcF flat_row (h.from_ (lo := p + 1) (by omega) (by intro hlt2 b' o' hA; first | (exfalso; omega) | (cases hA; first | rfl | (rw [if_neg (by omega)]; done) | (rw [if_neg (by omega)]; rfl) | (rw [if_neg (by omega)]; simp [add_none]; done) | (simp [add_none]; done)))) hb2; intro v3 w3 own3 gr3 at3; have hb3 := hb2.grown gr3 hb2.size (fun k hk => own2.row_ge hk); clear gr3 at3))
          all_goals
            go_ret2
            have hp := putL_at (val := val) HX.out hkk
            rw [← HS.out] at hp
            rw [hp.1, hp.2]
            exact ⟨v3, rfl, by simpa using own3, hb3⟩
        | false =>
          go_wp2_with (first
            | (at_builtin; refine wpList_append_Own _ rfl (.tmp 25) (.tmp 28) 22 rfl w.heap.size 32 i0 _ 24 Try.underlying22 hi hz0 hz1 hz2 rfl (R := rowRep) (S := fun _ => False) (l := []) (l' := l.take p) (.slice (some ⟨w.heap.size, 0, none⟩) 0 0) rfl (Own.nil _ _ _ (fun _ h => h.elim) _ _) _ p _ rfl ?_ (by simp [maxLen]; omega) (by simp; omega) (by omega) (by simp) ?_; exact IsSl.srcF flat_row (h.to_ hpn (by intro hlt2 b' o' hA; first | (exfalso; omega) | (cases hA; first | rfl | (rw [if_neg (by omega)]; done) | (rw [if_neg (by omega)]; rfl) | (rw [if_neg (by omega)]; simp [add_none]; done) | (simp [add_none]; done)))) hb0; intro v1 w1 own1 gr1 at1; have hb1 := hb0.grown gr1 (by simp) (by intro k hk; simp [rowOf] at hk); simp only [List.nil_append] at own1; clear gr1 at1)
            | (at_builtin; refine wpList_append_Own _ rfl (.tmp 30) (.tmp 34) 22 rfl w.heap.size 32 i0 _ 24 Try.underlying22 hi hz0 hz1 hz2 rfl (R := rowRep) (S := fun _ => False) (l' := [⟨key, val⟩]) v1 rfl (own1.alloc _) _ 1 _ rfl (Src.new ⟨rfl, hkey, hval⟩) (by simp [maxLen]; omega) (by simp; omega) (by omega) (by have := hb1.size; simp; omega) ?_; intro v2 w2 own2 gr2 at2; have hb2 := (hb1.alloc hb1.size _).grown gr2 (by have := hb1.size; simp; omega) (fun k hk => own1.row_ge hk); have hc2 := (hb2.cell (p := ⟨b, off + p * 2, none⟩) hbS).trans hc0; clear gr2 at2)
            | (at_builtin; refine wpList_append_Own _ rfl (.tmp 55) (.tmp 58) 22 rfl w.heap.size 32 i0 _ 24 Try.underlying22 hi hz0 hz1 hz2 rfl (R := rowRep) (S := fun _ => False) (l' := l.drop (p)) v2 rfl own2 _ (n - (p)) _ rfl ?_ (by simp [maxLen]; omega) (by simp; omega) (by omega) hb2.size ?_; exact IsSl.srcF flat_row (h.from_ (lo := p) (by omega) (by intro hlt2 b' o' hA; first | (exfalso; omega) | (cases hA; first | rfl | (rw [if_neg (by omega)]; done) | (rw [if_neg (by omega)]; rfl) | (rw [if_neg (by omega)]; simp [add_none]; done) | (simp [add_none]; done)))) hb2; intro v3 w3 own3 gr3 at3; have hb3 := hb2.grown gr3 hb2.size (fun k hk => own2.row_ge hk); clear gr3 at3))
          all_goals
            go_ret2
            have hp := putL_new (val := val) HX.out hkk
            rw [← HS.out] at hp
            rw [hp.1, hp.2]
            exact ⟨v3, rfl, by simpa using own3, hb3⟩
    · have hpn2 : n ≤ p := by omega
      have hle2 : posOf l key ≤ p := by omega
      have HP := Lib.hid (show p = posOf l key by omega)
      obtain rfl : p = n := by omega
      go_wp2_with (first
        | (at_builtin; refine wpList_append_Own _ rfl (.tmp 25) (.tmp 28) 22 rfl w.heap.size 32 i0 _ 24 Try.underlying22 hi hz0 hz1 hz2 rfl (R := rowRep) (S := fun _ => False) (l := []) (l' := l.take p) (.slice (some ⟨w.heap.size, 0, none⟩) 0 0) rfl (Own.nil _ _ _ (fun _ h => h.elim) _ _) _ p _ rfl ?_ (by simp [maxLen]; omega) (by simp; omega) (by omega) (by simp) ?_; exact IsSl.srcF flat_row (h.to_ hpn (by intro hlt2 b' o' hA; first | (exfalso; omega) | (cases hA; first | rfl | (rw [if_neg (by omega)]; done) | (rw [if_neg (by omega)]; rfl) | (rw [if_neg (by omega)]; simp [add_none]; done) | (simp [add_none]; done)))) hb0; intro v1 w1 own1 gr1 at1; have hb1 := hb0.grown gr1 (by simp) (by intro k hk; simp [rowOf] at hk); simp only [List.nil_append] at own1; clear gr1 at1)
        | (at_builtin; refine wpList_append_Own _ rfl (.tmp 30) (.tmp 34) 22 rfl w.heap.size 32 i0 _ 24 Try.underlying22 hi hz0 hz1 hz2 rfl (R := rowRep) (S := fun _ => False) (l' := [⟨key, val⟩]) v1 rfl (own1.alloc _) _ 1 _ rfl (Src.new ⟨rfl, hkey, hval⟩) (by simp [maxLen]; omega) (by simp; omega) (by omega) (by have := hb1.size; simp; omega) ?_; intro v2 w2 own2 gr2 at2; have hb2 := (hb1.alloc hb1.size _).grown gr2 (by have := hb1.size; simp; omega) (fun k hk => own1.row_ge hk); clear gr2 at2)
        | (at_builtin; refine wpList_append_Own _ rfl (.tmp 55) (.tmp 58) 22 rfl w.heap.size 32 i0 _ 24 Try.underlying22 hi hz0 hz1 hz2 rfl (R := rowRep) (S := fun _ => False) (l' := []) v2 rfl own2 _ 0 _ rfl Src.nil (by simp [maxLen]; omega) (by simp; omega) (by omega) hb2.size ?_; intro v3 w3 own3 gr3 at3; have hb3 := hb2.grown gr3 hb2.size (fun k hk => own2.row_ge hk); clear gr3 at3))
      all_goals
        go_ret2
        have hp := putL_end (val := val) (l := l) (key := key) (by rw [← HP.out, HL.out])
        rw [← HP.out] at hp
        rw [hp.1, hp.2, List.drop_eq_nil_of_le (by rw [← HL.out]; exact Nat.le_refl _)]
        exact ⟨v3, rfl, by simpa using own3, hb3⟩

/-- The rows behind a key, so many at most. -/
def behind (l : List Row) (key : Int) : List Row := l.filter fun x => decide (key < x.key)
def afterL (l : List Row) (key : Int) (k : Nat) : List Row := (behind l key).take k

theorem behind_snoc {l : List Row} {key : Int} {p : Nat} {x : Row} (h : l[p]? = some x) : behind (l.take (p + 1)) key = behind (l.take p) key ++ (if key < x.key then [x] else []) := by
  have hp : p < l.length := (List.getElem?_eq_some_iff.1 h).1
  have hx : l[p] = x := by rw [List.getElem?_eq_getElem hp] at h; exact Option.some.inj h
  unfold behind
  rw [List.take_succ_eq_append_getElem hp, List.filter_append, hx]
  by_cases hk : key < x.key <;> simp [hk]

theorem behind_len (l : List Row) (key : Int) (p : Nat) : (behind (l.take p) key).length ≤ p := by
  unfold behind
  exact Nat.le_trans (List.length_filter_le _ _) (List.length_take_le _ _)

theorem afterL_all {l : List Row} {key : Int} {k p : Nat} (hp : l.length ≤ p) (hk : (behind (l.take p) key).length ≤ k) : afterL l key k = behind (l.take p) key := by
  unfold afterL
  rw [List.take_of_length_le hp] at hk ⊢
  exact List.take_of_length_le hk

theorem afterL_full {l : List Row} {key : Int} {k p : Nat} (hk : (behind (l.take p) key).length = k) : afterL l key k = behind (l.take p) key := by
  have h : behind l key = behind (l.take p) key ++ behind (l.drop p) key := by
    unfold behind
    rw [← List.filter_append, List.take_append_drop]
  unfold afterL
  rw [h, List.take_append_of_le_length (by omega), List.take_of_length_le (by omega)]

set_option maxHeartbeats 1000000 in
theorem after_any (A : Option Addr) (n c : Nat) (l : List Row) (key : Int) (k : Int) (w : World) (h : IsSl rowRep w (· < w.heap.size) A n l) (hn : n ≤ 1000000) (hk0 : 0 ≤ k) (hk1 : k ≤ 1000000) :
    Calls Try.prog 22 #[.slice A n c, .int .i64 key, .int .i64 k] w fun e w' => ∃ v, e = .returned v ∧ Own rowRep w' w.heap.size (fun _ => False) 32 v (afterL l key k.toNat) ∧ Below w.heap.size w w' := by
  obtain ⟨k, rfl⟩ := Int.eq_ofNat_of_zero_le hk0
  rw [Int.toNat_natCast]
  obtain ⟨i0, hi, hz0, hz1, hz2⟩ := info_parts info_row
  have HL := Lib.hid h.len
  go_enter Try.func22, Try.ntmps22
  go_wp2
  go_loopw [7, 8] (fun v i wr => ∃ p : Nat, i = .int .i64 p ∧ p ≤ n ∧ Own rowRep wr w.heap.size (fun _ => False) 32 v (behind (l.take p) key) ∧ (behind (l.take p) key).length ≤ k ∧ Below w.heap.size w wr) (fun _ i _ => n - (intOf i).toNat)
  case atStart => exact ⟨0, rfl, Nat.zero_le _, by simpa [behind] using Own.nil (R := rowRep) w w.heap.size (fun _ => False) (fun _ h => h.elim) _ none, by simp [behind], Below.refl _ _⟩
  case round =>
    obtain ⟨p, rfl, hpn, hown, hlk, hbel⟩ := hrel
    have hpl := behind_len l key p
    obtain ⟨A', cap, rfl⟩ := hown.form
    have HO := Lib.hid hown
    clear hown
    by_cases hlt : p < n
    · obtain ⟨b, off, x, cs, rfl, hbS, hx, ⟨rfl, hwf⟩, hc⟩ := h.at_ hlt
      have hc0 : wr.cell? ⟨b, off + p * 2, none⟩ = some (.int .i64 x.key) := (hbel.cell hbS).trans (hc 0 _ rfl)
      have hc1 : wr.cell? ⟨b, off + p * 2 + 1, none⟩ = some (.string x.val) := (hbel.cell hbS).trans (hc 1 _ rfl)
      have HX := Lib.hid hx
      have HSN := Lib.hid (behind_snoc (key := key) hx)
      clear hc h hx
      by_cases hkk : (behind (l.take p) key).length < k
      · by_cases hb : key < x.key
        · go_wp2_with (at_builtin; refine wpList_append_Own _ rfl (.tmp 28) (.tmp 33) 22 rfl w.heap.size 32 i0 _ 24 Try.underlying22 hi hz0 hz1 hz2 rfl (R := rowRep) (S := fun _ => False) (l' := [x]) (.slice A' (behind (l.take p) key).length cap) rfl (HO.out.alloc _) _ 1 _ rfl (Src.new ⟨rfl, hwf⟩) (by simp only [maxLen]; omega) (by omega) (by omega) (by have := hbel.size; simp; omega) ?_; intro v2 w2 own2 gr2 at2; have hb2 := (hbel.alloc hbel.size _).grown gr2 (by have := hbel.size; simp; omega) (fun k hk => HO.out.row_ge hk); clear gr2 at2)
          go_roundw
          case rel =>
            have e := HSN.out
            rw [if_pos hb] at e
            exact ⟨p + 1, by go_num, by omega, by rw [e]; exact own2, by rw [e]; simp; omega, hb2⟩
          case measure => simp [intOf]; omega
        · have hb' : x.key ≤ key := by omega
          go_wp2
          go_roundw
          case rel =>
            have e := HSN.out
            rw [if_neg hb, List.append_nil] at e
            exact ⟨p + 1, by go_num, by omega, by rw [e]; exact HO.out, by rw [e]; exact hlk, hbel⟩
          case measure => simp [intOf]; omega
      · have hkk' : k ≤ (behind (l.take p) key).length := by omega
        go_wp2
        go_ret
        exact ⟨_, rfl, by rw [afterL_full (p := p) (by omega)]; exact HO.out, hbel⟩
    · have hlt' : n ≤ p := by omega
      go_wp2
      go_ret
      exact ⟨_, rfl, by rw [afterL_all (p := p) (by rw [← HL.out]; exact hlt') hlk]; exact HO.out, hbel⟩

end Go.Proofs.Ytmnjjmgdeiejkaa
