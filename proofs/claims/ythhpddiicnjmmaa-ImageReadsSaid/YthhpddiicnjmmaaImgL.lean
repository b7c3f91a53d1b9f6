/- Plain laws of images: what may be, the fields, what is read of them, the record around them. -/
import Derived.Test.YthhpddiicnjmmaaRefL
import Derived.Test.YthhpddiicnjmmaaTypesM
import Derived.Test.YthhpddiicnjmmaaRecP
import Derived.Test.YthhpddiicnjmmaaRecQ
set_option linter.unusedVariables false
set_option linter.unusedSimpArgs false
namespace Go.Proofs.Ythhpddiicnjmmaa
open Go.RowKit

abbrev Img := Int × List (List Row)
def mayR : Int → List Row → Bool
  | _, [] => true
  | a, r :: l => decide (a < r.key ∧ r.key ≤ 1099511627776 ∧ r.val.size ≤ 32) && mayR r.key l
def mayRows (l : List Row) : Bool := mayR 0 l && decide (l.length ≤ 1000)
def mayImg (x : Img) : Bool := decide (0 ≤ x.1 ∧ x.1 ≤ 1099511627776 ∧ 1 ≤ x.2.length ∧ x.2.length ≤ 8) && x.2.all mayRows
def rowF (r : Row) : List Fld := [numF r.key, txtF r.val]
def tabF (l : List Row) : List Fld := numF l.length :: l.flatMap rowF
def fieldsG (x : Img) : List Fld := numF x.1 :: numF x.2.length :: x.2.flatMap tabF

def rdRow (l : List Fld) (bad : Bool) : Row × List Fld × Bool :=
  let a := intP l bad
  let b := textP a.2.1 a.2.2
  (⟨a.1, b.1⟩, b.2)
def rdTab (l : List Fld) (bad : Bool) : List Row × List Fld × Bool :=
  let n := smallP l bad 1000
  rdMany rdRow n.1.toNat n.2.1 n.2.2 []
/-- So many, one behind the other, whatever is wrong. -/
def rdAll {α : Type} (rd : List Fld → Bool → α × List Fld × Bool) : Nat → List Fld → Bool → List α → List α × List Fld × Bool
  | 0, l, bad, acc => (acc, l, bad)
  | k + 1, l, bad, acc => rdAll rd k (rd l bad).2.1 (rd l bad).2.2 (acc ++ [(rd l bad).1])
def rdImg (l : List Fld) : Img × List Fld × Bool :=
  let a := intP l false
  let n := smallP a.2.1 a.2.2 8
  let x := rdAll rdTab n.1.toNat n.2.1 n.2.2 []
  ((a.1, x.1), x.2)
def rrRow (l : List Fld) (bad : Bool) : Row × List Fld × Bool :=
  let a := rintP l bad 1099511627776
  let b := rtextP a.2.1 a.2.2
  (⟨a.1, b.1⟩, b.2)
def rrTab (l : List Fld) (bad : Bool) : List Row × List Fld × Bool :=
  let n := rintP l bad 1000
  rdMany rrRow n.1.toNat n.2.1 n.2.2 []
def rrImg (l : List Fld) : Img × List Fld × Bool :=
  let a := rintP l false 1099511627776
  let n := rintP a.2.1 a.2.2 8
  let x := rdMany rrTab n.1.toNat n.2.1 n.2.2 []
  ((a.1, x.1), x.2)
def img0 : Img := (0, [])

theorem mayR_parts : ∀ {l : List Row} {a : Int}, 0 ≤ a → mayR a l = true → ∀ r ∈ l, 1 ≤ r.key ∧ r.key ≤ 1099511627776 ∧ r.val.size ≤ 32
  | [], _, _, _, _, h => by cases h
  | x :: l, a, ha, h, r, hr => by
    rw [mayR, Bool.and_eq_true, decide_eq_true_eq] at h
    rcases List.mem_cons.mp hr with rfl | hr
    · omega
    · exact mayR_parts (by omega) h.2 r hr
theorem mayRows_parts {l : List Row} (h : mayRows l = true) : l.length ≤ 1000 ∧ ∀ r ∈ l, 1 ≤ r.key ∧ r.key ≤ 1099511627776 ∧ r.val.size ≤ 32 := by
  unfold mayRows at h
  rw [Bool.and_eq_true, decide_eq_true_eq] at h
  exact ⟨h.2, mayR_parts (Int.le_refl 0) h.1⟩
theorem mayImg_parts {x : Img} (h : mayImg x = true) : 0 ≤ x.1 ∧ x.1 ≤ 1099511627776 ∧ 1 ≤ x.2.length ∧ x.2.length ≤ 8 ∧ ∀ l ∈ x.2, mayRows l = true := by
  unfold mayImg at h
  rw [Bool.and_eq_true, decide_eq_true_eq] at h
  exact ⟨h.1.1, h.1.2.1, h.1.2.2.1, h.1.2.2.2, fun l hl => List.all_eq_true.1 h.2 l hl⟩

theorem rdRow_ok (l : List Fld) (bad : Bool) (h : okL l) : okL (rdRow l bad).2.1 := textP_ok (intP_ok h _) _
theorem rrRow_ok (l : List Fld) (bad : Bool) (h : okL l) : okL (rrRow l bad).2.1 := rtextP_ok (rintP_ok h _ _) _
theorem rdTab_ok (l : List Fld) (bad : Bool) (h : okL l) : okL (rdTab l bad).2.1 := rdMany_ok rdRow_ok _ _ _ _ (smallP_ok h _ _)
theorem rrTab_ok (l : List Fld) (bad : Bool) (h : okL l) : okL (rrTab l bad).2.1 := rdMany_ok rrRow_ok _ _ _ _ (rintP_ok h _ _)

theorem rdRow_fwd (x : Row) (r : List Fld) : rdRow (rowF x ++ r) false = (x, r, false) := by
  unfold rdRow rowF
  simp only [List.cons_append, List.nil_append]
  rw [intP_num]; dsimp only
  rw [textP_txt]
theorem rrRow_fwd (x : Row) (r : List Fld) (h : 1 ≤ x.key ∧ x.key ≤ 1099511627776 ∧ x.val.size ≤ 32) : rrRow (rowF x ++ r) false = (x, r, false) := by
  unfold rrRow rowF
  simp only [List.cons_append, List.nil_append]
  rw [rintP_num _ _ _ (by omega) (by omega)]; dsimp only
  rw [rtextP_txt]
theorem rdRow_inv (l : List Fld) (bad : Bool) (x : Row) (r : List Fld) (ho : okL l) (h : rdRow l bad = (x, r, false)) : bad = false ∧ l = rowF x ++ r := by
  unfold rdRow at h
  obtain ⟨⟨x1, l1, b1⟩, h1⟩ : ∃ a, intP l bad = a := ⟨_, rfl⟩
  have o1 := intP_ok ho bad
  rw [h1] at h o1; dsimp only at h o1
  obtain ⟨⟨x2, l2, b2⟩, h2⟩ : ∃ a, textP l1 b1 = a := ⟨_, rfl⟩
  rw [h2] at h; dsimp only at h
  simp only [Prod.mk.injEq] at h
  obtain ⟨rfl, rfl, rfl⟩ := h
  obtain ⟨rfl, rfl, _⟩ := textP_inv o1 h2
  obtain ⟨rfl, rfl, _⟩ := intP_inv ho h1
  exact ⟨rfl, rfl⟩
theorem rrRow_inv (l : List Fld) (bad : Bool) (x : Row) (r : List Fld) (ho : okL l) (h : rrRow l bad = (x, r, false)) : bad = false ∧ l = rowF x ++ r := by
  unfold rrRow at h
  obtain ⟨⟨x1, l1, b1⟩, h1⟩ : ∃ a, rintP l bad 1099511627776 = a := ⟨_, rfl⟩
  have o1 := rintP_ok ho bad 1099511627776
  rw [h1] at h o1; dsimp only at h o1
  obtain ⟨⟨x2, l2, b2⟩, h2⟩ : ∃ a, rtextP l1 b1 = a := ⟨_, rfl⟩
  rw [h2] at h; dsimp only at h
  simp only [Prod.mk.injEq] at h
  obtain ⟨rfl, rfl, rfl⟩ := h
  obtain ⟨rfl, rfl, _⟩ := rtextP_inv o1 h2
  obtain ⟨rfl, rfl, _⟩ := rintP_inv ho h1
  exact ⟨rfl, rfl⟩
theorem rdTab_fwd (x : List Row) (r : List Fld) (h : mayRows x = true) : rdTab (tabF x ++ r) false = (x, r, false) := by
  have hp := mayRows_parts h
  unfold rdTab tabF
  rw [List.cons_append, smallP_num _ _ _ (by omega) (by omega)]
  dsimp only
  rw [show ((x.length : Int)).toNat = x.length by omega, rdMany_fwd (enc := rowF) (ok := fun _ => True) (fun x r _ => rdRow_fwd x r) x [] r (fun _ _ => trivial), List.nil_append]
theorem rrTab_fwd (x : List Row) (r : List Fld) (h : mayRows x = true) : rrTab (tabF x ++ r) false = (x, r, false) := by
  have hp := mayRows_parts h
  unfold rrTab tabF
  rw [List.cons_append, rintP_num _ _ _ (by omega) (by omega)]
  dsimp only
  rw [show ((x.length : Int)).toNat = x.length by omega, rdMany_fwd (enc := rowF) (ok := fun x => 1 ≤ x.key ∧ x.key ≤ 1099511627776 ∧ x.val.size ≤ 32) (fun x r h => rrRow_fwd x r h) x [] r hp.2, List.nil_append]
theorem rdTab_inv (l : List Fld) (bad : Bool) (x : List Row) (r : List Fld) (ho : okL l) (h : rdTab l bad = (x, r, false)) : bad = false ∧ l = tabF x ++ r := by
  unfold rdTab at h
  obtain ⟨⟨x1, l1, b1⟩, h1⟩ : ∃ a, smallP l bad 1000 = a := ⟨_, rfl⟩
  have o1 := smallP_ok ho bad 1000
  rw [h1] at h o1; dsimp only at h o1
  obtain ⟨rfl, m, rfl, hm, rfl⟩ := rdMany_inv rdRow_inv rdRow_ok _ _ _ _ _ _ o1 h
  obtain ⟨rfl, rfl, _, p1, _⟩ := smallP_inv ho h1
  obtain rfl : x1 = (x.length : Int) := by omega
  exact ⟨rfl, by simp [tabF]⟩
theorem rrTab_inv (l : List Fld) (bad : Bool) (x : List Row) (r : List Fld) (ho : okL l) (h : rrTab l bad = (x, r, false)) : bad = false ∧ l = tabF x ++ r := by
  unfold rrTab at h
  obtain ⟨⟨x1, l1, b1⟩, h1⟩ : ∃ a, rintP l bad 1000 = a := ⟨_, rfl⟩
  have o1 := rintP_ok ho bad 1000
  rw [h1] at h o1; dsimp only at h o1
  obtain ⟨rfl, m, rfl, hm, rfl⟩ := rdMany_inv rrRow_inv rrRow_ok _ _ _ _ _ _ o1 h
  obtain ⟨rfl, rfl, _, p1, _⟩ := rintP_inv ho h1
  obtain rfl : x1 = (x.length : Int) := by omega
  exact ⟨rfl, by simp [tabF]⟩
theorem rdAll_fwd {α : Type} {rd : List Fld → Bool → α × List Fld × Bool} {enc : α → List Fld} {ok : α → Prop} (h : ∀ x r, ok x → rd (enc x ++ r) false = (x, r, false)) : ∀ (xs acc : List α) (r : List Fld), (∀ x ∈ xs, ok x) → rdAll rd xs.length (xs.flatMap enc ++ r) false acc = (acc ++ xs, r, false)
  | [], acc, r, _ => by simp [rdAll]
  | x :: t, acc, r, hx => by
    rw [List.length_cons, rdAll, List.flatMap_cons, List.append_assoc, h x _ (hx x (by simp))]
    dsimp only
    rw [rdAll_fwd h t (acc ++ [x]) r (fun y hy => hx y (by simp [hy]))]
    simp
theorem rdAll_inv {α : Type} {rd : List Fld → Bool → α × List Fld × Bool} {enc : α → List Fld} (h : ∀ l bad x r, okL l → rd l bad = (x, r, false) → bad = false ∧ l = enc x ++ r) (hok : ∀ l bad, okL l → okL (rd l bad).2.1) : ∀ (k : Nat) (l : List Fld) (bad : Bool) (acc xs : List α) (r : List Fld), okL l → rdAll rd k l bad acc = (xs, r, false) → bad = false ∧ ∃ m, xs = acc ++ m ∧ m.length = k ∧ l = m.flatMap enc ++ r
  | 0, l, bad, acc, xs, r, _, he => by
    rw [rdAll] at he
    simp only [Prod.mk.injEq] at he
    obtain ⟨rfl, rfl, rfl⟩ := he
    exact ⟨rfl, [], by simp, rfl, by simp⟩
  | k + 1, l, bad, acc, xs, r, ho, he => by
    rw [rdAll] at he
    obtain ⟨⟨x, l2, b2⟩, h2⟩ : ∃ a, rd l bad = a := ⟨_, rfl⟩
    have o2 := hok l bad ho
    rw [h2] at he o2
    dsimp only at he o2
    obtain ⟨rfl, m, rfl, hm, rfl⟩ := rdAll_inv h hok k l2 b2 _ _ _ o2 he
    obtain ⟨rfl, rfl⟩ := h _ _ _ _ ho h2
    exact ⟨rfl, x :: m, by simp, by simp [hm], by simp⟩
theorem rdImg_fwd (x : Img) (h : mayImg x = true) : rdImg (fieldsG x) = (x, [], false) := by
  have hp := mayImg_parts h
  unfold rdImg fieldsG
  rw [intP_num]; dsimp only
  rw [smallP_num _ _ _ (by omega) (by omega)]; dsimp only
  have := rdAll_fwd (enc := tabF) (ok := fun l => mayRows l = true) rdTab_fwd x.2 [] [] hp.2.2.2.2
  rw [List.append_nil, List.nil_append] at this
  rw [show ((x.2.length : Int)).toNat = x.2.length by omega, this]
theorem rrImg_fwd (x : Img) (h : mayImg x = true) : rrImg (fieldsG x) = (x, [], false) := by
  have hp := mayImg_parts h
  unfold rrImg fieldsG
  rw [rintP_num _ _ _ (by omega) (by omega)]; dsimp only
  rw [rintP_num _ _ _ (by omega) (by omega)]; dsimp only
  have := rdMany_fwd (enc := tabF) (ok := fun l => mayRows l = true) rrTab_fwd x.2 [] [] hp.2.2.2.2
  rw [List.append_nil, List.nil_append] at this
  rw [show ((x.2.length : Int)).toNat = x.2.length by omega, this]
theorem rdImg_inv (l : List Fld) (t : Img) (ho : okL l) (h : rdImg l = (t, [], false)) : l = fieldsG t := by
  unfold rdImg at h
  obtain ⟨⟨x1, l1, b1⟩, h1⟩ : ∃ a, intP l false = a := ⟨_, rfl⟩
  have o1 := intP_ok ho false
  rw [h1] at h o1; dsimp only at h o1
  obtain ⟨⟨x2, l2, b2⟩, h2⟩ : ∃ a, smallP l1 b1 8 = a := ⟨_, rfl⟩
  have o2 := smallP_ok o1 b1 8
  rw [h2] at h o2; dsimp only at h o2
  obtain ⟨⟨x3, l3, b3⟩, h3⟩ : ∃ a, rdAll rdTab x2.toNat l2 b2 [] = a := ⟨_, rfl⟩
  rw [h3] at h; dsimp only at h
  simp only [Prod.mk.injEq] at h
  obtain ⟨rfl, rfl, rfl⟩ := h
  obtain ⟨rfl, m, rfl, hm, rfl⟩ := rdAll_inv rdTab_inv rdTab_ok _ _ _ _ _ _ o2 h3
  obtain ⟨rfl, rfl, _, p2, _⟩ := smallP_inv o1 h2
  obtain ⟨_, rfl, _⟩ := intP_inv ho h1
  obtain rfl : x2 = (x3.length : Int) := by omega
  simp [fieldsG]
theorem rrImg_inv (l : List Fld) (t : Img) (ho : okL l) (h : rrImg l = (t, [], false)) : l = fieldsG t := by
  unfold rrImg at h
  obtain ⟨⟨x1, l1, b1⟩, h1⟩ : ∃ a, rintP l false 1099511627776 = a := ⟨_, rfl⟩
  have o1 := rintP_ok ho false 1099511627776
  rw [h1] at h o1; dsimp only at h o1
  obtain ⟨⟨x2, l2, b2⟩, h2⟩ : ∃ a, rintP l1 b1 8 = a := ⟨_, rfl⟩
  have o2 := rintP_ok o1 b1 8
  rw [h2] at h o2; dsimp only at h o2
  obtain ⟨⟨x3, l3, b3⟩, h3⟩ : ∃ a, rdMany rrTab x2.toNat l2 b2 [] = a := ⟨_, rfl⟩
  rw [h3] at h; dsimp only at h
  simp only [Prod.mk.injEq] at h
  obtain ⟨rfl, rfl, rfl⟩ := h
  obtain ⟨rfl, m, rfl, hm, rfl⟩ := rdMany_inv rrTab_inv rrTab_ok _ _ _ _ _ _ o2 h3
  obtain ⟨rfl, rfl, _, p2, _⟩ := rintP_inv o1 h2
  obtain ⟨_, rfl, _⟩ := rintP_inv ho h1
  obtain rfl : x2 = (x3.length : Int) := by omega
  simp [fieldsG]

/-! ### The fields -/
theorem rowsF_len (l : List Row) : (l.flatMap rowF).length = 2 * l.length := by
  induction l with
  | nil => rfl
  | cons x t ih => rw [List.flatMap_cons, List.length_append, ih, List.length_cons]; show 2 + _ = _; omega
theorem tabsF_len : ∀ (T : List (List Row)), (∀ l ∈ T, l.length ≤ 1000) → (T.flatMap tabF).length ≤ 2001 * T.length
  | [], _ => by simp
  | x :: t, h => by
    have ih := tabsF_len t (fun l hl => h l (by simp [hl]))
    have h1 := h x (by simp)
    rw [List.flatMap_cons, List.length_append, List.length_cons]
    have : (tabF x).length = 2 * x.length + 1 := by unfold tabF; rw [List.length_cons, rowsF_len]
    omega
theorem numG_ok (n : Int) : okField (numF n) = true := by simp [okField, numF]
theorem txtG_ok {s : ByteArray} (h : s.size ≤ 32) : okField (txtF s) = true := okT (by omega)
theorem tabF_ok {l : List Row} (h : mayRows l = true) : ∀ f ∈ tabF l, okField f = true ∧ f.wf := by
  have hp := mayRows_parts h
  intro f hf
  unfold tabF at hf
  rcases List.mem_cons.mp hf with rfl | hf
  · exact ⟨numG_ok _, numF_wf (by unfold I64; omega)⟩
  · obtain ⟨r, hr, hf⟩ := List.mem_flatMap.mp hf
    have hq := hp.2 r hr
    unfold rowF at hf
    simp only [List.mem_cons, List.not_mem_nil, or_false] at hf
    rcases hf with rfl | rfl
    · exact ⟨numG_ok _, numF_wf (by unfold I64; omega)⟩
    · exact ⟨txtG_ok hq.2.2, txtF_wf (by simp only [maxLen]; omega)⟩
theorem fieldsG_ok {x : Img} (h : mayImg x = true) : (fieldsG x).all okField = true ∧ (fieldsG x).length ≤ 16010 ∧ ∀ f ∈ fieldsG x, f.wf := by
  obtain ⟨h1, h2, h3, h4, h5⟩ := mayImg_parts h
  have hall : ∀ f ∈ fieldsG x, okField f = true ∧ f.wf := by
    intro f hf
    unfold fieldsG at hf
    rcases List.mem_cons.mp hf with rfl | hf
    · exact ⟨numG_ok _, numF_wf (by unfold I64; omega)⟩
    rcases List.mem_cons.mp hf with rfl | hf
    · exact ⟨numG_ok _, numF_wf (by unfold I64; omega)⟩
    obtain ⟨l, hl, hf⟩ := List.mem_flatMap.mp hf
    exact tabF_ok (h5 l hl) f hf
  refine ⟨List.all_eq_true.2 fun f hf => (hall f hf).1, ?_, fun f hf => (hall f hf).2⟩
  have := tabsF_len x.2 (fun l hl => (mayRows_parts (h5 l hl)).1)
  unfold fieldsG
  rw [List.length_cons, List.length_cons]
  omega
/-- The bytes of an image's fields are no more than a record holds. -/
theorem encRow_len {r : Row} (h : r.val.size ≤ 32) : (encL (rowF r)).length ≤ 44 := by
  unfold encL rowF
  simp only [List.flatMap_cons, List.flatMap_nil, List.append_nil, List.length_append]
  have h1 : (encF (numF r.key)).length = 9 := by simp [encF, numF, bigB_len]
  have h2 : (encF (txtF r.val)).length = 3 + r.val.size := by simp [encF, txtF, bigB_len]; omega
  omega
theorem encL_app (a b : List Fld) : encL (a ++ b) = encL a ++ encL b := by unfold encL; rw [List.flatMap_append]
theorem encRows_len : ∀ (l : List Row), (∀ r ∈ l, r.val.size ≤ 32) → (encL (l.flatMap rowF)).length ≤ 44 * l.length
  | [], _ => by simp [encL]
  | x :: t, h => by
    have ih := encRows_len t (fun r hr => h r (by simp [hr]))
    have h1 := encRow_len (h x (by simp))
    rw [List.flatMap_cons, encL_app, List.length_append, List.length_cons]
    omega
theorem encTabs_len : ∀ (T : List (List Row)), (∀ l ∈ T, mayRows l = true) → (encL (T.flatMap tabF)).length ≤ 44009 * T.length
  | [], _ => by simp [encL]
  | x :: t, h => by
    have ih := encTabs_len t (fun l hl => h l (by simp [hl]))
    have hp := mayRows_parts (h x (by simp))
    have h1 := encRows_len x (fun r hr => (hp.2 r hr).2.2)
    rw [List.flatMap_cons, encL_app, List.length_append, List.length_cons]
    have : (encL (tabF x)).length = 9 + (encL (x.flatMap rowF)).length := by
      unfold tabF encL
      rw [List.flatMap_cons, List.length_append]
      have : (encF (numF x.length)).length = 9 := by simp [encF, numF, bigB_len]
      omega
    omega
theorem encG_len {x : Img} (h : mayImg x = true) : (encB (fieldsG x)).length ≤ 400000 := by
  obtain ⟨h1, h2, h3, h4, h5⟩ := mayImg_parts h
  have := encTabs_len x.2 h5
  unfold encB fieldsG
  rw [List.length_append, bigB_len]
  have e : encL (numF x.1 :: numF x.2.length :: x.2.flatMap tabF) = encF (numF x.1) ++ (encF (numF x.2.length) ++ encL (x.2.flatMap tabF)) := by unfold encL; simp
  rw [e, List.length_append, List.length_append]
  have a1 : (encF (numF x.1)).length = 9 := by simp [encF, numF, bigB_len]
  have a2 : (encF (numF x.2.length)).length = 9 := by simp [encF, numF, bigB_len]
  omega

/-! ### The record around them -/
def imgE (x : Img) : Int := if mayImg x = true then 0 else 1
def imgV (x : Img) : List UInt8 := if mayImg x = true then putB (encB (fieldsG x)) else []
def isRec (b : List UInt8) : Prop := takeE b = 0 ∧ takeK b = b.length
instance (b : List UInt8) : Decidable (isRec b) := by unfold isRec; infer_instance
def fromV (b : List UInt8) : Img := if isRec b then decGV rdImg mayImg img0 (takeV b) else img0
def fromE (b : List UInt8) : Int := if isRec b ∧ decGE rdImg mayImg (takeV b) = 0 then 0 else 3
theorem img_same (p : List UInt8) : decGV rrImg mayImg img0 p = decGV rdImg mayImg img0 p ∧ decGE rrImg mayImg p = decGE rdImg mayImg p := by
  rcases decG_cases rdImg_inv rrImg_inv rdImg_fwd rrImg_fwd p (z := img0) with ⟨_, t, _, _, h1, h2, h3, h4⟩ | ⟨h1, h2, _, h4⟩
  · rw [h1, h2, h3, h4]; exact ⟨rfl, rfl⟩
  · rw [h1, h2, h4]; exact ⟨rfl, rfl⟩
theorem img_enc {x : Img} (h : mayImg x = true) : encE (fieldsG x) = 0 ∧ encV (fieldsG x) = encB (fieldsG x) ∧ decGE rdImg mayImg (encB (fieldsG x)) = 0 ∧ decGV rdImg mayImg img0 (encB (fieldsG x)) = x := by
  obtain ⟨h1, h2, h3⟩ := fieldsG_ok h
  obtain ⟨e1, e2, e3, e4, _⟩ := decG_enc (z := img0) h h1 (by omega) h3 (rdImg_fwd x h)
  have k : encE (fieldsG x) = 0 ∧ encV (fieldsG x) = encB (fieldsG x) := by
    unfold encE encV
    rw [encO_eq (by omega) h1]
    exact ⟨rfl, rfl⟩
  rw [e2] at e3 e4
  exact ⟨k.1, k.2, e3, e4⟩
theorem from_may (b : List UInt8) : mayImg (fromV b) = true ∨ fromV b = img0 := by
  unfold fromV
  split
  · rcases decG_cases rdImg_inv rrImg_inv rdImg_fwd rrImg_fwd (takeV b) (z := img0) with ⟨_, t, _, hm, h1, _⟩ | ⟨h1, _⟩
    · rw [h1]; exact .inl hm
    · rw [h1]; exact .inr rfl
  · exact .inr rfl
theorem from_ok {b : List UInt8} (h : fromE b = 0) : isRec b ∧ decGE rdImg mayImg (takeV b) = 0 := by
  unfold fromE at h
  split at h
  · assumption
  · exact absurd h (by decide)
end Go.Proofs.Ythhpddiicnjmmaa
