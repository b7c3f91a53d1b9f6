/- Plain laws of segments' bytes: what a head is, what is read. -/
import Derived.Test.YtcohheoahdbgmaaRecQ
import Derived.Test.YtcohheoahdbgmaaRecP
import Derived.Test.YtcohheoahdbgmaaFldP
import Derived.Test.YtcohheoahdbgmaaPce2
set_option linter.unusedVariables false
set_option linter.unusedSimpArgs false
namespace Go.Proofs.Ytcohheoahdbgmaa
open Go.RowKit

def hdOk : List Fld → Bool
  | [f] => decide (f.kind = 1) && (decide (1 ≤ f.n) && decide (f.n ≤ 1099511627776))
  | _ => false
def hdN : List Fld → Int
  | [f] => f.n
  | _ => 0
/-- May these records stand in a segment? -/
def segOkL : List (List UInt8) → Bool
  | [] => false
  | p :: _ => decide (decE p = 0) && hdOk (decV p)
def segNL : List (List UInt8) → Int
  | [] => 0
  | p :: _ => hdN (decV p)
def segOk (b : List UInt8) : Bool := segOkL (scanL b).1
def segF (b : List UInt8) : Int := if segOk b = true then segNL (scanL b).1 else 0
def segR (b : List UInt8) : List (List UInt8) := if segOk b = true then (scanL b).1.drop 1 else []
def segK (b : List UInt8) : Nat := if segOk b = true then (scanL b).2 else 0
def segE (b : List UInt8) : Int := if segOk b = true then 0 else 3

def headB8 (f : Int) : List UInt8 := encV [numF f]
def headE (f : Int) : Int := if 1 ≤ f ∧ f ≤ 1099511627776 then 0 else 1
def headV (f : Int) : List UInt8 := if 1 ≤ f ∧ f ≤ 1099511627776 then putB (headB8 f) else []

theorem seg_yes {b : List UInt8} (h : segOk b = true) : segF b = segNL (scanL b).1 ∧ segR b = (scanL b).1.drop 1 ∧ segK b = (scanL b).2 ∧ segE b = 0 := ⟨if_pos h, if_pos h, if_pos h, if_pos h⟩
theorem seg_no {b : List UInt8} (h : segOk b = false) : segF b = 0 ∧ segR b = [] ∧ segK b = 0 ∧ segE b = 3 := by
  have h' : ¬ segOk b = true := by rw [h]; simp
  exact ⟨if_neg h', if_neg h', if_neg h', if_neg h'⟩

theorem putV_of {p : List UInt8} (h : p.length ≤ 1048576) : putV p = putB p ∧ putE p = 0 := ⟨if_pos h, if_pos h⟩
theorem putV_len (p : List UInt8) : (putV p).length ≤ 1048584 := by
  unfold putV
  split
  · rename_i h; rw [putB_len]; omega
  · show ([] : List UInt8).length ≤ _; simp
theorem numF_wf1 {f : Int} (h : I64 f) : ∀ x ∈ [numF f], x.wf := by
  intro x hx
  obtain rfl : x = numF f := by simpa using hx
  exact ⟨(by show I64 (1 : Int); unfold I64; omega), h, Nat.zero_le _⟩
theorem numF_ok1 (f : Int) : [numF f].all okField = true := by simp [okField, numF]
theorem head_enc {f : Int} (h : I64 f) : encE [numF f] = 0 ∧ (headB8 f).length = 11 ∧ decE (headB8 f) = 0 ∧ decV (headB8 f) = [numF f] := by
  have hb : headB8 f = encB [numF f] := by
    unfold headB8 encV
    rw [encO_eq (by simp) (numF_ok1 f)]
    rfl
  have hd : decO (encB [numF f]) = .ok [numF f] := by
    have := decO_enc (l := [numF f]) (by simp) (numF_ok1 f) (numF_wf1 h) []
    rw [List.append_nil, if_pos rfl] at this
    exact this
  refine ⟨?_, ?_, ?_, ?_⟩
  · unfold encE; rw [encO_eq (by simp) (numF_ok1 f)]; rfl
  · rw [hb]; unfold encB encL; simp [bigB_len, encF, numF]
  · rw [hb]; unfold decE; rw [hd]
  · rw [hb]; unfold decV; rw [hd]
theorem headV_yes {f : Int} (h : 1 ≤ f ∧ f ≤ 1099511627776) : headE f = 0 ∧ headV f = putB (headB8 f) ∧ (headV f).length = 19 := by
  have h1 : headV f = putB (headB8 f) := if_pos h
  refine ⟨if_pos h, h1, ?_⟩
  rw [h1, putB_len, (head_enc (by unfold I64; omega)).2.1]
theorem headV_no {f : Int} (h : ¬ (1 ≤ f ∧ f ≤ 1099511627776)) : headE f = 1 ∧ headV f = [] := ⟨if_neg h, if_neg h⟩
theorem headV_len (f : Int) : (headV f).length ≤ 19 := by
  by_cases h : 1 ≤ f ∧ f ≤ 1099511627776
  · rw [(headV_yes h).2.2]; exact Nat.le_refl _
  · rw [(headV_no h).2]; simp

/-- A segment's bytes: a head, and so many entries at most. -/
def rowsV (l : List (List UInt8)) : List UInt8 := (l.map putV).flatten
def bytesV (f : Int) (l : List (List UInt8)) : List UInt8 := headV f ++ rowsV (l.take 30)
theorem rowsV_snoc (l : List (List UInt8)) (p : List UInt8) : rowsV (l ++ [p]) = rowsV l ++ putV p := by unfold rowsV; simp
theorem rowsV_len : ∀ (l : List (List UInt8)), (rowsV l).length ≤ 1048584 * l.length
  | [] => by simp [rowsV]
  | p :: l => by
    have ih := rowsV_len l
    have hp := putV_len p
    have : rowsV (p :: l) = putV p ++ rowsV l := rfl
    rw [this, List.length_append, List.length_cons]
    omega
theorem bytesV_len (f : Int) (l : List (List UInt8)) : (headV f).length ≤ (bytesV f l).length ∧ (bytesV f l).length ≤ 31457539 := by
  unfold bytesV
  rw [List.length_append]
  have h1 := headV_len f
  have h2 := rowsV_len (l.take 30)
  rw [List.length_take] at h2
  omega
theorem rowsV_cat : ∀ {l : List (List UInt8)}, (∀ p ∈ l, p.length ≤ 1048576) → rowsV l = catL l
  | [], _ => rfl
  | p :: l, h => by
    have ih := rowsV_cat (l := l) (fun q hq => h q (List.mem_cons_of_mem _ hq))
    show putV p ++ rowsV l = putB p ++ catL l
    rw [ih, (putV_of (h p (List.mem_cons_self ..))).1]

theorem seg_headed {f : Int} (h : 1 ≤ f ∧ f ≤ 1099511627776) (r : List (List UInt8)) : segOkL (headB8 f :: r) = true ∧ segNL (headB8 f :: r) = f := by
  obtain ⟨_, _, h3, h4⟩ := head_enc (f := f) (by unfold I64; omega)
  constructor
  · show (decide (decE (headB8 f) = 0) && hdOk (decV (headB8 f))) = true
    rw [h3, h4]
    show (decide ((0 : Int) = 0) && (decide ((1 : Int) = 1) && (decide (1 ≤ f) && decide (f ≤ 1099511627776)))) = true
    rw [decide_eq_true h.1, decide_eq_true h.2]
    rfl
  · show hdN (decV (headB8 f)) = f
    rw [h4]
    rfl

/-- Where the cut falls among records. -/
theorem cut_at (l : List (List UInt8)) (m : Nat) : ∃ k, k ≤ l.length ∧ (catL (l.take k)).length ≤ m ∧ (k < l.length → m < (catL (l.take (k + 1))).length) := by
  have go : ∀ j, j ≤ l.length → (∃ k, k ≤ j ∧ (catL (l.take k)).length ≤ m ∧ (k < j → m < (catL (l.take (k + 1))).length)) := by
    intro j
    induction j with
    | zero => intro _; exact ⟨0, Nat.le_refl _, by simp [catL], fun h => absurd h (by omega)⟩
    | succ j ih =>
      intro hj
      obtain ⟨k, h1, h2, h3⟩ := ih (by omega)
      by_cases hk : k < j
      · exact ⟨k, by omega, h2, fun _ => h3 hk⟩
      · obtain rfl : k = j := by omega
        by_cases hm : (catL (l.take (k + 1))).length ≤ m
        · exact ⟨k + 1, Nat.le_refl _, hm, fun h => absurd h (by omega)⟩
        · exact ⟨k, by omega, h2, fun _ => by omega⟩
  exact go l.length (Nat.le_refl _)

theorem scan_all {l : List (List UInt8)} (h : ∀ p ∈ l, p.length ≤ 1048576) : scanL (catL l) = (l, (catL l).length) := by
  have := scan_cut l h l.length (catL l).length (by rw [List.take_length]; exact Nat.le_refl _) (fun h => absurd h (by omega)) (Nat.le_refl _)
  rw [List.take_length, List.take_length] at this
  exact this

/-- What is read of a segment that is whole, and of one that is cut off. -/
theorem seg_back {f : Int} (hf : 1 ≤ f ∧ f ≤ 1099511627776) {l : List (List UInt8)} (hl : ∀ p ∈ l, p.length ≤ 5000) (h30 : l.length ≤ 30) :
    segOk (bytesV f l) = true ∧ segF (bytesV f l) = f ∧ segR (bytesV f l) = l ∧ segK (bytesV f l) = (bytesV f l).length ∧
    ∀ m, m < (bytesV f l).length → (m < 19 → segOk ((bytesV f l).take m) = false) ∧
      (19 ≤ m → segOk ((bytesV f l).take m) = true ∧ segF ((bytesV f l).take m) = f ∧ segK ((bytesV f l).take m) ≤ m ∧ ∃ k, k < l.length ∧ segR ((bytesV f l).take m) = l.take k) := by
  have hI : I64 f := by unfold I64; omega
  obtain ⟨_, h11, _, _⟩ := head_enc hI
  have hl2 : ∀ p ∈ headB8 f :: l, p.length ≤ 1048576 := by
    intro p hp
    rcases List.mem_cons.mp hp with rfl | hp
    · omega
    · have := hl p hp; omega
  have hb : bytesV f l = catL (headB8 f :: l) := by
    unfold bytesV
    rw [List.take_of_length_le h30, (headV_yes hf).2.1, rowsV_cat (fun p hp => hl2 p (List.mem_cons_of_mem _ hp))]
    rfl
  rw [hb]
  have hs := scan_all hl2
  have hok : segOk (catL (headB8 f :: l)) = true := by unfold segOk; rw [hs]; exact (seg_headed hf l).1
  have hy := seg_yes hok
  rw [hs] at hy
  refine ⟨hok, by rw [hy.1]; exact (seg_headed hf l).2, hy.2.1, hy.2.2.1, fun m hm => ?_⟩
  obtain ⟨k, hk1, hk2, hk3⟩ := cut_at (headB8 f :: l) m
  have hc := scan_cut _ hl2 k m hk2 hk3 hk1
  have hk4 : k < (headB8 f :: l).length := by
    rcases Nat.lt_or_ge k (headB8 f :: l).length with h | h
    · exact h
    · rw [List.take_of_length_le h] at hk2; omega
  have h19 : ∀ j, (catL ((headB8 f :: l).take (j + 1))).length = 19 + (catL (l.take j)).length := by
    intro j
    rw [List.take_succ_cons, catL_cons, List.length_append, putB_len, h11]
  constructor
  · intro hm19
    cases k with
    | zero =>
      unfold segOk
      rw [hc]
      rfl
    | succ j =>
      rw [h19] at hk2
      omega
  · intro hm19
    cases k with
    | zero =>
      have := hk3 (by simp)
      rw [h19] at this
      simp [catL] at this
      omega
    | succ j =>
      rw [List.take_succ_cons] at hc
      have hok2 : segOk ((catL (headB8 f :: l)).take m) = true := by unfold segOk; rw [hc]; exact (seg_headed hf _).1
      have hy2 := seg_yes hok2
      rw [hc] at hy2
      refine ⟨hok2, by rw [hy2.1]; exact (seg_headed hf _).2, ?_, j, by simp at hk4; omega, hy2.2.1⟩
      rw [hy2.2.2.1]
      rw [List.take_succ_cons] at hk2
      exact hk2

/-- A record that is another one than a head's. -/
theorem seg_none {p : List UInt8} (h : segOkL [p] = false) : segOk (putV p) = false := by
  unfold putV
  split
  · rename_i hp
    have hs := scan_all (l := [p]) (by intro q hq; obtain rfl : q = p := (by simpa using hq); exact hp)
    have hc : catL [p] = putB p := by simp [catL]
    rw [hc] at hs
    unfold segOk
    rw [hs]
    exact h
  · unfold segOk
    rw [scan_bad (by rw [takeE_short (by simp)]; omega)]
    rfl
theorem segOkL_many {l : List Fld} (hn : l.length ≤ 200) (h : encE l = 0) (h1 : l.length ≠ 1) (hw : ∀ f ∈ l, f.wf) : segOkL [encV l] = false := by
  have hs : (encO l).isSome = true := by
    unfold encE at h
    cases e : (encO l).isSome
    · rw [e] at h; exact absurd h (by decide)
    · rfl
  obtain ⟨b, hb⟩ := Option.isSome_iff_exists.mp hs
  have hok : l.length ≤ 32767 ∧ l.all okField = true := by
    unfold encO at hb
    split at hb
    · assumption
    · cases hb
  have hd := decO_enc hok.1 hok.2 hw []
  rw [List.append_nil, if_pos rfl] at hd
  have hv : encV l = encB l := by unfold encV; rw [encO_eq hok.1 hok.2]; rfl
  show (decide (decE (encV l) = 0) && hdOk (decV (encV l))) = false
  have : decV (encV l) = l := by rw [hv]; unfold decV; rw [hd]
  rw [this]
  have : hdOk l = false := by
    clear hn h hw hs hb hok hd hv this
    rcases l with _ | ⟨x, _ | ⟨y, r⟩⟩
    · rfl
    · exact absurd rfl h1
    · rfl
  rw [this, Bool.and_false]
end Go.Proofs.Ytcohheoahdbgmaa
