import Derived.Test.YtlkdehflipfpbaaD1
namespace Go.Proofs.Ytlkdehflipfpbaa.QSpanReckons
open Go.RowKit Go.Proofs.YtlkdehflipfpbaaW.PrintWords Go.Proofs.YtlkdehflipfpbaaW.PrintLast Go.Proofs.YtlkdehflipfpbaaW.PrintMore
theorem wrap_next (i : Nat) (h : i ≤ 4000000) : wrap64 ((i : Int) + 1) = ((i + 1 : Nat) : Int) := by unfold wrap64; omega
theorem wr1 : wrap64 (0 + 1) = 1 := by unfold wrap64; omega
theorem wr2 : wrap64 (1 + 1) = 2 := by unfold wrap64; omega
def lesser (m x : Int) : Int := if x < m then x else m
def greater (m x : Int) : Int := if x > m then x else m
theorem fixMin_l (xs : List Int) (hl : xs.length ≤ 1000000) : ∀ (d i k : Nat) (cur : Int), xs.length - i = d → 0 < i → i ≤ xs.length → d < k → fix_Min.l0 k cur xs (xs.length : Int) (i : Int) = some ((xs.drop i).foldl lesser cur) := by
  intro d
  induction d with
  | zero =>
    intro i k cur hd h0 h1 hk
    obtain ⟨k, rfl⟩ : ∃ m, k = m + 1 := ⟨k - 1, by omega⟩
    simp only [fix_Min.l0]
    rw [if_neg (by omega), List.drop_eq_nil_of_le (by omega)]
    rfl
  | succ d ih =>
    intro i k cur hd h0 h1 hk
    obtain ⟨k, rfl⟩ : ∃ m, k = m + 1 := ⟨k - 1, by omega⟩
    simp only [fix_Min.l0]
    have hi : i < xs.length := by omega
    rw [if_pos (by omega), if_pos (by omega), if_pos (by omega), if_neg (by omega), wrap_next i (by omega), List.drop_eq_getElem_cons hi, List.foldl_cons]
    rw [show rd xs (i : Int) = xs[i] by simp [rd, hi]]
    unfold lesser
    split
    · exact ih (i + 1) k _ (by omega) (by omega) (by omega) (by omega)
    · exact ih (i + 1) k _ (by omega) (by omega) (by omega) (by omega)
theorem fixMin_f (x : Int) (xs : List Int) (k : Nat) (hl : xs.length < 1000000) (hk : xs.length + 1 < k) : fix_Min.f k (x :: xs) = some (xs.foldl lesser x) := by
  obtain ⟨k, rfl⟩ : ∃ m, k = m + 1 := ⟨k - 1, by omega⟩
  unfold fix_Min.f
  simp only [fix_Min.l0]
  rw [if_pos (by simp), if_pos (by omega), if_pos (by simp), if_pos trivial, show rd (x :: xs) 0 = x from rfl, wr1]
  exact fixMin_l (x :: xs) (by simp; omega) xs.length 1 k x (by simp) (by omega) (by simp) (by omega)
theorem refMin_l (xs : List Int) (hl : xs.length ≤ 1000000) : ∀ (d i k : Nat) (cur : Int), xs.length - i = d → 0 < i → i ≤ xs.length → d < k → picketref1_Min.l0 k xs cur (i : Int) = some ((xs.drop i).foldl lesser cur) := by
  intro d
  induction d with
  | zero =>
    intro i k cur hd h0 h1 hk
    obtain ⟨k, rfl⟩ : ∃ m, k = m + 1 := ⟨k - 1, by omega⟩
    simp only [picketref1_Min.l0]
    rw [if_neg (by omega), List.drop_eq_nil_of_le (by omega)]
    rfl
  | succ d ih =>
    intro i k cur hd h0 h1 hk
    obtain ⟨k, rfl⟩ : ∃ m, k = m + 1 := ⟨k - 1, by omega⟩
    simp only [picketref1_Min.l0]
    have hi : i < xs.length := by omega
    rw [if_pos (by omega), if_neg (by omega), if_pos (by omega), wrap_next i (by omega), List.drop_eq_getElem_cons hi, List.foldl_cons]
    rw [show rd xs (i : Int) = xs[i] by simp [rd, hi]]
    unfold lesser
    split
    · exact ih (i + 1) k _ (by omega) (by omega) (by omega) (by omega)
    · exact ih (i + 1) k _ (by omega) (by omega) (by omega) (by omega)
theorem refMin_f (x : Int) (xs : List Int) (k : Nat) (hl : xs.length < 1000000) (hk : xs.length + 1 < k) : picketref1_Min.f k (x :: xs) = some (xs.foldl lesser x) := by
  obtain ⟨k, rfl⟩ : ∃ m, k = m + 1 := ⟨k - 1, by omega⟩
  unfold picketref1_Min.f
  simp only [picketref1_Min.l0]
  rw [if_pos (by simp), if_pos trivial, if_pos (by omega), show rd (x :: xs) 0 = x from rfl, wr1]
  exact refMin_l (x :: xs) (by simp; omega) xs.length 1 k x (by simp) (by omega) (by simp) (by omega)
theorem fixMax_l (xs : List Int) (hl : xs.length ≤ 1000000) : ∀ (d i k : Nat) (cur : Int), xs.length - i = d → 0 < i → i ≤ xs.length → d < k → fix_Max.l0 k cur xs (xs.length : Int) (i : Int) = some ((xs.drop i).foldl greater cur) := by
  intro d
  induction d with
  | zero =>
    intro i k cur hd h0 h1 hk
    obtain ⟨k, rfl⟩ : ∃ m, k = m + 1 := ⟨k - 1, by omega⟩
    simp only [fix_Max.l0]
    rw [if_neg (by omega), List.drop_eq_nil_of_le (by omega)]
    rfl
  | succ d ih =>
    intro i k cur hd h0 h1 hk
    obtain ⟨k, rfl⟩ : ∃ m, k = m + 1 := ⟨k - 1, by omega⟩
    simp only [fix_Max.l0]
    have hi : i < xs.length := by omega
    rw [if_pos (by omega), if_pos (by omega), if_pos (by omega), if_neg (by omega), wrap_next i (by omega), List.drop_eq_getElem_cons hi, List.foldl_cons]
    rw [show rd xs (i : Int) = xs[i] by simp [rd, hi]]
    unfold greater
    split
    · exact ih (i + 1) k _ (by omega) (by omega) (by omega) (by omega)
    · exact ih (i + 1) k _ (by omega) (by omega) (by omega) (by omega)
theorem fixMax_f (x : Int) (xs : List Int) (k : Nat) (hl : xs.length < 1000000) (hk : xs.length + 1 < k) : fix_Max.f k (x :: xs) = some (xs.foldl greater x) := by
  obtain ⟨k, rfl⟩ : ∃ m, k = m + 1 := ⟨k - 1, by omega⟩
  unfold fix_Max.f
  simp only [fix_Max.l0]
  rw [if_pos (by simp), if_pos (by omega), if_pos (by simp), if_pos trivial, show rd (x :: xs) 0 = x from rfl, wr1]
  exact fixMax_l (x :: xs) (by simp; omega) xs.length 1 k x (by simp) (by omega) (by simp) (by omega)
theorem refMax_l (xs : List Int) (hl : xs.length ≤ 1000000) : ∀ (d i k : Nat) (cur : Int), xs.length - i = d → 0 < i → i ≤ xs.length → d < k → picketref1_Max.l0 k xs cur (i : Int) = some ((xs.drop i).foldl greater cur) := by
  intro d
  induction d with
  | zero =>
    intro i k cur hd h0 h1 hk
    obtain ⟨k, rfl⟩ : ∃ m, k = m + 1 := ⟨k - 1, by omega⟩
    simp only [picketref1_Max.l0]
    rw [if_neg (by omega), List.drop_eq_nil_of_le (by omega)]
    rfl
  | succ d ih =>
    intro i k cur hd h0 h1 hk
    obtain ⟨k, rfl⟩ : ∃ m, k = m + 1 := ⟨k - 1, by omega⟩
    simp only [picketref1_Max.l0]
    have hi : i < xs.length := by omega
    rw [if_pos (by omega), if_neg (by omega), if_pos (by omega), wrap_next i (by omega), List.drop_eq_getElem_cons hi, List.foldl_cons]
    rw [show rd xs (i : Int) = xs[i] by simp [rd, hi]]
    unfold greater
    split
    · exact ih (i + 1) k _ (by omega) (by omega) (by omega) (by omega)
    · exact ih (i + 1) k _ (by omega) (by omega) (by omega) (by omega)
theorem refMax_f (x : Int) (xs : List Int) (k : Nat) (hl : xs.length < 1000000) (hk : xs.length + 1 < k) : picketref1_Max.f k (x :: xs) = some (xs.foldl greater x) := by
  obtain ⟨k, rfl⟩ : ∃ m, k = m + 1 := ⟨k - 1, by omega⟩
  unfold picketref1_Max.f
  simp only [picketref1_Max.l0]
  rw [if_pos (by simp), if_pos trivial, if_pos (by omega), show rd (x :: xs) 0 = x from rfl, wr1]
  exact refMax_l (x :: xs) (by simp; omega) xs.length 1 k x (by simp) (by omega) (by simp) (by omega)
abbrev Sp := S48
def fullB (s : Sp) : Bool := !decide (s.f0 > s.f1)
theorem rd_sp (l : List Sp) (i : Nat) (h : i < l.length) : rd_T48 l (i : Int) = l[i] := by simp [rd_T48, h]
theorem some_l (l : List Sp) (hl : l.length ≤ 1000000) : ∀ (d i k : Nat), l.length - i = d → i ≤ l.length → d < k → span_some.l0 k l (l.length : Int) (i : Int) = some ((l.drop i).all fullB) := by
  intro d
  induction d with
  | zero =>
    intro i k hd h1 hk
    obtain ⟨k, rfl⟩ : ∃ m, k = m + 1 := ⟨k - 1, by omega⟩
    simp only [span_some.l0]
    rw [if_neg (by omega), List.drop_eq_nil_of_le (by omega)]
    rfl
  | succ d ih =>
    intro i k hd h1 hk
    obtain ⟨k, rfl⟩ : ∃ m, k = m + 1 := ⟨k - 1, by omega⟩
    simp only [span_some.l0]
    have hi : i < l.length := by omega
    rw [if_pos (by omega), if_pos (by omega), if_pos (by omega), wrap_next i (by omega), List.drop_eq_getElem_cons hi, List.all_cons, rd_sp l i hi]
    unfold span_Empty.f
    simp only [Option.bind_some]
    by_cases h : l[i].f0 > l[i].f1
    · rw [if_pos (decide_eq_true h), show fullB l[i] = false by unfold fullB; rw [decide_eq_true h]; rfl, Bool.false_and]
    · rw [if_neg (by rw [decide_eq_false h]; decide), show fullB l[i] = true by unfold fullB; rw [decide_eq_false h]; rfl, Bool.true_and]
      exact ih (i + 1) k (by omega) (by omega) (by omega)
theorem some_f (l : List Sp) (hl : l.length ≤ 1000000) (k : Nat) (hk : l.length < k) : span_some.f k l = some (l.all fullB) := some_l l hl l.length 0 k (by omega) (by omega) hk
theorem ends_l (l : List Sp) (hl : l.length ≤ 1000000) : ∀ (d i k : Nat) (a b : List Int), l.length - i = d → i ≤ l.length → d < k → a.length = i → b.length = i → span_ends.l0 k a b l (l.length : Int) (i : Int) = some (a ++ (l.drop i).map (·.f0), b ++ (l.drop i).map (·.f1)) := by
  intro d
  induction d with
  | zero =>
    intro i k a b hd h1 hk ha hb
    obtain ⟨k, rfl⟩ : ∃ m, k = m + 1 := ⟨k - 1, by omega⟩
    simp only [span_ends.l0]
    rw [if_neg (by omega), List.drop_eq_nil_of_le (by omega)]
    simp
  | succ d ih =>
    intro i k a b hd h1 hk ha hb
    obtain ⟨k, rfl⟩ : ∃ m, k = m + 1 := ⟨k - 1, by omega⟩
    simp only [span_ends.l0]
    have hi : i < l.length := by omega
    rw [if_pos (by omega), if_pos (by omega), if_pos (by omega), wrap_next i (by omega), List.drop_eq_getElem_cons hi, rd_sp l i hi]
    simp only [Option.bind_some]
    rw [if_pos (by simp; omega), if_pos (by simp; omega), ih (i + 1) k _ _ (by omega) (by omega) (by omega) (by simp; omega) (by simp; omega)]
    simp only [List.append_assoc, List.singleton_append, List.map_cons]
theorem ends_f (l : List Sp) (hl : l.length ≤ 1000000) (k : Nat) (hk : l.length < k) : span_ends.f k l = some (l.map (·.f0), l.map (·.f1)) := by
  have h := ends_l l hl l.length 0 k [] [] (by omega) (by omega) hk rfl rfl
  simpa [span_ends.f] using h
/-! What each reckoning tells: the span, and whether it stayed at an end. -/
def inS (s : Sp) : Prop := (-9223372036854775808 ≤ s.f0 ∧ s.f0 ≤ 9223372036854775807) ∧ (-9223372036854775808 ≤ s.f1 ∧ s.f1 ≤ 9223372036854775807)
def plusS (s : Bool) (l : List Sp) : Int × Int × Bool :=
  if l.all fullB = true then (big.clamp (big.tot (l.map (·.f0))), big.clamp (big.tot (l.map (·.f1))), s || big.over (big.tot (l.map (·.f0))) || big.over (big.tot (l.map (·.f1)))) else (0, -1, s)
theorem in_maps (l : List Sp) (h : ∀ s ∈ l, inS s) : big.inIb (l.map (·.f0)) = true ∧ big.inIb (l.map (·.f1)) = true := by
  rw [big.inIb_iff, big.inIb_iff]
  constructor
  · intro x hx
    obtain ⟨s, hs, rfl⟩ := List.mem_map.1 hx
    exact (h s hs).1
  · intro x hx
    obtain ⟨s, hs, rfl⟩ := List.mem_map.1 hx
    exact (h s hs).2
theorem plus_f (s : Bool) (l : List Sp) (hl : l.length ≤ 1000000) (h : ∀ s ∈ l, inS s) (k : Nat) (hk : l.length < k) : span_Acc_Plus.f k s l = some (plusS s l) := by
  unfold span_Acc_Plus.f plusS
  rw [some_f l hl k hk]
  simp only [Option.bind_some]
  by_cases ha : l.all fullB = true
  · rw [if_pos ha, if_pos ha, ends_f l hl k hk]
    simp only [Option.bind_some]
    unfold fix_Acc_Add.f
    rw [if_pos (in_maps l h).1]
    simp only [Option.bind_some]
    rw [if_pos (in_maps l h).2]
    rfl
  · rw [if_neg ha, if_neg ha]
    rfl
theorem refPlus_l (s : Bool) (l : List Sp) (hl : l.length ≤ 1000000) (h : ∀ s ∈ l, inS s) : ∀ (d i k : Nat), l.length - i = d → i ≤ l.length → d < k → picketref1_Acc_Plus.l0 k l ((l.take i).map (·.f0)) ((l.take i).map (·.f1)) (i : Int) s = some (if (l.drop i).all fullB = true then (big.clamp (big.tot (l.map (·.f0))), big.clamp (big.tot (l.map (·.f1))), s || big.over (big.tot (l.map (·.f0))) || big.over (big.tot (l.map (·.f1)))) else (0, -1, s)) := by
  intro d
  induction d with
  | zero =>
    intro i k hd h1 hk
    obtain ⟨k, rfl⟩ : ∃ m, k = m + 1 := ⟨k - 1, by omega⟩
    simp only [picketref1_Acc_Plus.l0]
    rw [if_neg (by omega), List.drop_eq_nil_of_le (by omega), List.take_of_length_le (by omega)]
    unfold picketref1_Acc_Add.f
    rw [if_pos (in_maps l h).1]
    simp only [Option.bind_some]
    rw [if_pos (in_maps l h).2]
    rfl
  | succ d ih =>
    intro i k hd h1 hk
    obtain ⟨k, rfl⟩ : ∃ m, k = m + 1 := ⟨k - 1, by omega⟩
    simp only [picketref1_Acc_Plus.l0]
    have hi : i < l.length := by omega
    rw [if_pos (by omega), if_pos (by omega), wrap_next i (by omega), List.drop_eq_getElem_cons hi, rd_sp l i hi, List.all_cons]
    unfold picketref1_Empty.f
    simp only [Option.bind_some]
    by_cases he : l[i].f0 > l[i].f1
    · rw [if_pos (decide_eq_true he), show fullB l[i] = false by unfold fullB; rw [decide_eq_true he]; rfl, Bool.false_and]
      rfl
    · rw [if_neg (by rw [decide_eq_false he]; decide), show fullB l[i] = true by unfold fullB; rw [decide_eq_false he]; rfl, Bool.true_and]
      rw [if_pos (by simp; omega), if_pos (by simp; omega)]
      have hh := ih (i + 1) k (by omega) (by omega) (by omega)
      rw [List.take_succ_eq_append_getElem hi, List.map_append, List.map_append] at hh
      exact hh
theorem refPlus_f (s : Bool) (l : List Sp) (hl : l.length ≤ 1000000) (h : ∀ s ∈ l, inS s) (k : Nat) (hk : l.length < k) : picketref1_Acc_Plus.f k s l = some (plusS s l) := refPlus_l s l hl h l.length 0 k (by omega) (by omega) hk
def minusS (s : Bool) (x y : Sp) : Int × Int × Bool := if fullB x = true ∧ fullB y = true then (big.clamp (x.f0 - y.f1), big.clamp (x.f1 - y.f0), s || big.over (x.f0 - y.f1) || big.over (x.f1 - y.f0)) else (0, -1, s)
theorem fullB_t {s : Sp} : fullB s = true ↔ ¬ s.f0 > s.f1 := by
  unfold fullB
  by_cases h : s.f0 > s.f1
  · rw [decide_eq_true h]; simp [h]
  · rw [decide_eq_false h]; simp [h]
theorem minus_f (s : Bool) (x y : Sp) (hx : inS x) (hy : inS y) (k : Nat) (hk : 10 < k) : span_Acc_Minus.f k s x.f0 x.f1 y.f0 y.f1 = some (minusS s x y) := by
  unfold span_Acc_Minus.f minusS
  rw [some_f _ (by simp) k (by simp; omega)]
  simp only [Option.bind_some, List.all_cons, List.all_nil, Bool.and_true, Bool.and_eq_true]
  by_cases h : fullB x = true ∧ fullB y = true
  · rw [if_pos h, if_pos h]
    unfold fix_Acc_Sub.f
    rw [if_pos ⟨hx.1, hy.2⟩]
    simp only [Option.bind_some]
    rw [if_pos ⟨hx.2, hy.1⟩]
    rfl
  · rw [if_neg h, if_neg h]
    rfl
theorem refMinus_f (s : Bool) (x y : Sp) (hx : inS x) (hy : inS y) (k : Nat) (hk : 10 < k) : picketref1_Acc_Minus.f k s x.f0 x.f1 y.f0 y.f1 = some (minusS s x y) := by
  obtain ⟨k, rfl⟩ : ∃ m, k = m + 1 := ⟨k - 1, by omega⟩
  unfold picketref1_Acc_Minus.f minusS picketref1_Empty.f
  simp only [Option.bind_some, picketref1_Acc_Minus.j0, fullB_t]
  by_cases h1 : x.f0 > x.f1
  · rw [if_pos (decide_eq_true h1), if_pos trivial, if_neg (fun h => h.1 h1)]
  · rw [if_neg (by rw [decide_eq_false h1]; decide)]
    by_cases h2 : y.f0 > y.f1
    · rw [if_pos (decide_eq_true h2), if_neg (fun h => h.2 h2)]
    · rw [if_neg (by rw [decide_eq_false h2]; decide), if_pos ⟨h1, h2⟩]
      unfold picketref1_Acc_Sub.f
      rw [if_pos ⟨hx.1, hy.2⟩]
      simp only [Option.bind_some]
      rw [if_pos ⟨hx.2, hy.1⟩]
      rfl
def mulV (x y : Int) (up : Bool) : Int := big.clamp (big.shiftI (x * y) up)
def mulO (x y : Int) : Bool := big.over (big.shiftI (x * y) false) || big.over (big.shiftI (x * y) true)
def crossS (s : Bool) (x y : Sp) : Int × Int × Bool :=
  if fullB x = true ∧ fullB y = true then
    ([mulV x.f0 y.f1 false, mulV x.f1 y.f0 false, mulV x.f1 y.f1 false].foldl lesser (mulV x.f0 y.f0 false), [mulV x.f0 y.f1 true, mulV x.f1 y.f0 true, mulV x.f1 y.f1 true].foldl greater (mulV x.f0 y.f0 true), s || mulO x.f0 y.f0 || mulO x.f0 y.f1 || mulO x.f1 y.f0 || mulO x.f1 y.f1)
  else (0, -1, s)
def timesS (s : Bool) (x : Sp) (c : Int) : Int × Int × Bool :=
  if fullB x = true then ([mulV x.f1 c false].foldl lesser (mulV x.f0 c false), [mulV x.f1 c true].foldl greater (mulV x.f0 c true), s || mulO x.f0 c || mulO x.f1 c) else (0, -1, s)
theorem fmul (x y : Int) (hx : -9223372036854775808 ≤ x ∧ x ≤ 9223372036854775807) (hy : -9223372036854775808 ≤ y ∧ y ≤ 9223372036854775807) (s up : Bool) : fix_Acc_Mul.f s x y up = some (mulV x y up, s || big.over (big.shiftI (x * y) up)) := by
  unfold fix_Acc_Mul.f
  rw [if_pos ⟨hx, hy⟩]
  rfl
theorem rmul (x y : Int) (hx : -9223372036854775808 ≤ x ∧ x ≤ 9223372036854775807) (hy : -9223372036854775808 ≤ y ∧ y ≤ 9223372036854775807) (s up : Bool) : picketref1_Acc_Mul.f s x y up = some (mulV x y up, s || big.over (big.shiftI (x * y) up)) := by
  unfold picketref1_Acc_Mul.f
  rw [if_pos ⟨hx, hy⟩]
  rfl
def in64 (x : Int) : Prop := -9223372036854775808 ≤ x ∧ x ≤ 9223372036854775807
theorem p0_in (k : Nat) (m lo hi l : List Int) (n i : Int) (s : Bool) (h0 : 0 ≤ i) (h1 : i < n) (h2 : i < (l.length : Int)) {x : Int} (hr : rd l i = x) : span_Acc_products.l0 (k + 1) m lo hi l n i s = span_Acc_products.l1 k m lo hi x l n i m (m.length : Int) 0 s := by
  subst hr
  simp only [span_Acc_products.l0]
  rw [if_pos h1, if_pos h0, if_pos h2]
theorem p0_out (k : Nat) (m lo hi l : List Int) (n i : Int) (s : Bool) (h1 : ¬ i < n) {a b : Int} (ha : fix_Min.f k lo = some a) (hb : fix_Max.f k hi = some b) : span_Acc_products.l0 (k + 1) m lo hi l n i s = some (a, b, s) := by
  simp only [span_Acc_products.l0]
  rw [if_neg h1, ha, hb]
  rfl
theorem p1_in (k : Nat) (m' lo hi l m : List Int) (x n i n2 j : Int) (s : Bool) (h0 : 0 ≤ j) (h1 : j < n2) (h2 : j < (m.length : Int)) {y : Int} (hr : rd m j = y) (hx : in64 x) (hy : in64 y) (hlo : lo.length < 100) (hhi : hi.length < 100) :
    span_Acc_products.l1 (k + 1) m' lo hi x l n i m n2 j s = span_Acc_products.l1 k m' (lo ++ [mulV x y false]) (hi ++ [mulV x y true]) x l n i m n2 (wrap64 (j + 1)) (s || mulO x y) := by
  subst hr
  simp only [span_Acc_products.l1]
  rw [if_pos h1, if_pos h0, if_pos h2, fmul x _ hx hy]
  simp only [Option.bind_some]
  rw [if_pos (by omega), fmul x _ hx hy]
  simp only [Option.bind_some]
  rw [if_pos (by omega), Bool.or_assoc]
  rfl
theorem p1_out (k : Nat) (m' lo hi l m : List Int) (x n i n2 j : Int) (s : Bool) (h1 : ¬ j < n2) : span_Acc_products.l1 (k + 1) m' lo hi x l n i m n2 j s = span_Acc_products.l0 k m' lo hi l n (wrap64 (i + 1)) s := by
  simp only [span_Acc_products.l1]
  rw [if_neg h1]
theorem prod1 (s : Bool) (a b c : Int) (ha : in64 a) (hb : in64 b) (hc : in64 c) (k : Nat) (hk : 30 < k) :
    span_Acc_products.f k s [a, b] [c] = some ([mulV b c false].foldl lesser (mulV a c false), [mulV b c true].foldl greater (mulV a c true), s || mulO a c || mulO b c) := by
  obtain ⟨k, rfl⟩ : ∃ m, k = m + 20 := ⟨k - 20, by omega⟩
  unfold span_Acc_products.f
  rw [p0_in _ _ _ _ _ _ _ _ (by omega) (by simp) (by simp) (show rd [a, b] 0 = a from rfl), p1_in _ _ _ _ _ _ _ _ _ _ _ _ (by omega) (by simp) (by simp) (show rd [c] 0 = c from rfl) ha hc (by simp) (by simp), p1_out _ _ _ _ _ _ _ _ _ _ _ _ (by rw [wr1]; simp), wr1]
  rw [p0_in _ _ _ _ _ _ _ _ (by omega) (by simp) (by simp) (show rd [a, b] 1 = b from rfl), p1_in _ _ _ _ _ _ _ _ _ _ _ _ (by omega) (by simp) (by simp) (show rd [c] 0 = c from rfl) hb hc (by simp) (by simp), p1_out _ _ _ _ _ _ _ _ _ _ _ _ (by rw [wr1]; simp), wr2]
  exact p0_out _ _ _ _ _ _ _ _ (by simp) (fixMin_f _ _ _ (by simp) (by simp)) (fixMax_f _ _ _ (by simp) (by simp))
theorem prod2 (s : Bool) (a b c d : Int) (ha : in64 a) (hb : in64 b) (hc : in64 c) (hd : in64 d) (k : Nat) (hk : 30 < k) :
    span_Acc_products.f k s [a, b] [c, d] = some ([mulV a d false, mulV b c false, mulV b d false].foldl lesser (mulV a c false), [mulV a d true, mulV b c true, mulV b d true].foldl greater (mulV a c true), s || mulO a c || mulO a d || mulO b c || mulO b d) := by
  obtain ⟨k, rfl⟩ : ∃ m, k = m + 20 := ⟨k - 20, by omega⟩
  unfold span_Acc_products.f
  rw [p0_in _ _ _ _ _ _ _ _ (by omega) (by simp) (by simp) (show rd [a, b] 0 = a from rfl), p1_in _ _ _ _ _ _ _ _ _ _ _ _ (by omega) (by simp) (by simp) (show rd [c, d] 0 = c from rfl) ha hc (by simp) (by simp), wr1, p1_in _ _ _ _ _ _ _ _ _ _ _ _ (by omega) (by simp) (by simp) (show rd [c, d] 1 = d from rfl) ha hd (by simp) (by simp), wr2, p1_out _ _ _ _ _ _ _ _ _ _ _ _ (by simp), wr1]
  rw [p0_in _ _ _ _ _ _ _ _ (by omega) (by simp) (by simp) (show rd [a, b] 1 = b from rfl), p1_in _ _ _ _ _ _ _ _ _ _ _ _ (by omega) (by simp) (by simp) (show rd [c, d] 0 = c from rfl) hb hc (by simp) (by simp), wr1, p1_in _ _ _ _ _ _ _ _ _ _ _ _ (by omega) (by simp) (by simp) (show rd [c, d] 1 = d from rfl) hb hd (by simp) (by simp), wr2, p1_out _ _ _ _ _ _ _ _ _ _ _ _ (by simp), wr2]
  exact p0_out _ _ _ _ _ _ _ _ (by simp) (fixMin_f _ _ _ (by simp) (by simp)) (fixMax_f _ _ _ (by simp) (by simp))
theorem times_f (s : Bool) (x : Sp) (c : Int) (hx : inS x) (hc : -9223372036854775808 ≤ c ∧ c ≤ 9223372036854775807) (k : Nat) (hk : 40 < k) : span_Acc_Times.f k s x.f0 x.f1 c = some (timesS s x c) := by
  unfold span_Acc_Times.f timesS span_Empty.f
  simp only [Option.bind_some]
  by_cases h : x.f0 > x.f1
  · rw [if_pos (decide_eq_true h), if_neg (by rw [fullB_t]; exact fun h' => h' h)]
    rfl
  · rw [if_neg (by rw [decide_eq_false h]; decide), if_pos (fullB_t.2 h), prod1 s x.f0 x.f1 c hx.1 hx.2 hc k (by omega)]
    rfl
theorem cross_f (s : Bool) (x y : Sp) (hx : inS x) (hy : inS y) (k : Nat) (hk : 40 < k) : span_Acc_Cross.f k s x.f0 x.f1 y.f0 y.f1 = some (crossS s x y) := by
  unfold span_Acc_Cross.f crossS
  rw [some_f _ (by simp) k (by simp; omega)]
  simp only [Option.bind_some, List.all_cons, List.all_nil, Bool.and_true, Bool.and_eq_true]
  by_cases h : fullB x = true ∧ fullB y = true
  · rw [if_pos h, if_pos h, prod2 s x.f0 x.f1 y.f0 y.f1 hx.1 hx.2 hy.1 hy.2 k (by omega)]
    rfl
  · rw [if_neg h, if_neg h]
    rfl
theorem or8 (s a b c d e f g h : Bool) : (((((((( s || a) || b) || c) || d) || e) || f) || g) || h) = (s || (a || e) || (b || f) || (c || g) || (d || h)) := by
  cases s <;> cases a <;> cases b <;> cases c <;> cases d <;> cases e <;> cases f <;> cases g <;> cases h <;> rfl
theorem refCross_f (s : Bool) (x y : Sp) (hx : inS x) (hy : inS y) (k : Nat) (hk : 40 < k) : picketref1_Acc_Cross.f k s x.f0 x.f1 y.f0 y.f1 = some (crossS s x y) := by
  obtain ⟨k, rfl⟩ : ∃ m, k = m + 1 := ⟨k - 1, by omega⟩
  unfold picketref1_Acc_Cross.f crossS picketref1_Empty.f
  simp only [Option.bind_some, picketref1_Acc_Cross.j0, fullB_t]
  by_cases h1 : x.f0 > x.f1
  · rw [if_pos (decide_eq_true h1), if_pos trivial, if_neg (fun h => h.1 h1)]
  · rw [if_neg (by rw [decide_eq_false h1]; decide)]
    by_cases h2 : y.f0 > y.f1
    · rw [if_pos (decide_eq_true h2), if_neg (fun h => h.2 h2)]
    · rw [if_neg (by rw [decide_eq_false h2]; decide), if_pos ⟨h1, h2⟩]
      simp only [rmul x.f0 y.f0 hx.1 hy.1, rmul x.f0 y.f1 hx.1 hy.2, rmul x.f1 y.f0 hx.2 hy.1, rmul x.f1 y.f1 hx.2 hy.2, Option.bind_some]
      rw [refMin_f _ _ k (by simp) (by simp; omega), refMax_f _ _ k (by simp) (by simp; omega)]
      simp only [Option.bind_some, or8]
      rfl
theorem cross_times (s : Bool) (x : Sp) (c : Int) : crossS s x ⟨c, c⟩ = timesS s x c := by
  unfold crossS timesS
  by_cases h : fullB x = true
  · rw [if_pos ⟨h, fullB_t.2 (by show ¬ c > c; omega)⟩, if_pos h]
    have e1 : ∀ a b : Int, [a, b, b].foldl lesser a = [b].foldl lesser a := by
      intro a b
      simp only [List.foldl_cons, List.foldl_nil, lesser]
      (repeat' split) <;> omega
    have e2 : ∀ a b : Int, [a, b, b].foldl greater a = [b].foldl greater a := by
      intro a b
      simp only [List.foldl_cons, List.foldl_nil, greater]
      (repeat' split) <;> omega
    simp only [e1, e2]
    congr 2
    generalize mulO x.f0 c = p
    generalize mulO x.f1 c = q
    cases s <;> cases p <;> cases q <;> rfl
  · rw [if_neg (fun h' => h h'.1), if_neg h]
theorem refTimes_f (s : Bool) (x : Sp) (c : Int) (hx : inS x) (hc : -9223372036854775808 ≤ c ∧ c ≤ 9223372036854775807) (k : Nat) (hk : 40 < k) : picketref1_Acc_Times.f k s x.f0 x.f1 c = some (timesS s x c) := by
  have h := refCross_f s x ⟨c, c⟩ hx ⟨hc, hc⟩ k hk
  unfold picketref1_Acc_Times.f
  rw [h, cross_times]
  rfl
theorem same_l (l : List Sp) (hl : l.length ≤ 1000000) : ∀ (d i k : Nat), l.length - i = d → i ≤ l.length → d < k → picketbook_SameSpans.l0 k l l (i : Int) = some true := by
  intro d
  induction d with
  | zero =>
    intro i k hd h1 hk
    obtain ⟨k, rfl⟩ : ∃ m, k = m + 1 := ⟨k - 1, by omega⟩
    simp only [picketbook_SameSpans.l0]
    rw [if_neg (by omega)]
  | succ d ih =>
    intro i k hd h1 hk
    obtain ⟨k, rfl⟩ : ∃ m, k = m + 1 := ⟨k - 1, by omega⟩
    simp only [picketbook_SameSpans.l0]
    rw [if_pos (by omega), if_pos (by omega), if_pos (by omega), if_pos (by simp), wrap_next i (by omega)]
    exact ih (i + 1) k (by omega) (by omega) (by omega)
theorem same_f (l : List Sp) (hl : l.length ≤ 1000000) (k : Nat) (hk : l.length < k) : picketbook_SameSpans.f k l l = some true := by
  unfold picketbook_SameSpans.f
  rw [if_pos rfl]
  exact same_l l hl l.length 0 k (by omega) (by omega) hk
end Go.Proofs.Ytlkdehflipfpbaa.QSpanReckons
