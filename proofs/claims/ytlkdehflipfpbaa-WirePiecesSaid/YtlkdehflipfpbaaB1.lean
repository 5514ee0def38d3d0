import Derived.Test.YtlkdehflipfpbaaA9
namespace Go.Proofs.Ytlkdehflipfpbaa
open Go.RowKit Go.Proofs.YtlkdehflipfpbaaW.PrintWords

/-! ### bytes put side by side -/
theorem son_append (a b : List Int) : strOfNums (a ++ b) = strOfNums a ++ strOfNums b := by
  apply ByteArray.ext
  simp [strOfNums]
theorem size_app (x r : ByteArray) : (x ++ r).size = x.size + r.size := by simp
theorem ba_ext {a b : ByteArray} (h : a.data.toList = b.data.toList) : a = b := ByteArray.ext (Array.ext' h)
theorem data_app (x r : ByteArray) : (x ++ r).data.toList = x.data.toList ++ r.data.toList := by simp
theorem data_ext (x : ByteArray) (a b : Nat) : (x.extract a b).data.toList = (x.data.toList.take b).drop a := by simp [List.drop_take]
theorem ext_app_l (x r : ByteArray) : (x ++ r).extract 0 x.size = x := by
  apply ba_ext
  rw [data_ext, data_app, ← data_length x]
  simp
theorem ext_app_r (x r : ByteArray) : (x ++ r).extract x.size (x ++ r).size = r := by
  apply ba_ext
  rw [data_ext, List.take_of_length_le (by rw [data_length]; omega), data_app, ← data_length x]
  simp
theorem bt_app (x r : ByteArray) (i : Int) (h : i.toNat < x.size) : bt (x ++ r) i = bt x i := by
  rw [← rd_bytesOf, ← rd_bytesOf]
  unfold rd bytesOf
  have : (x ++ r).data.toList = x.data.toList ++ r.data.toList := by simp
  rw [this, List.map_append]
  simp only [List.getD_eq_getElem?_getD]
  rw [List.getElem?_append_left (by rw [List.length_map, data_length]; exact h)]
theorem bt_ext (x : ByteArray) (k : Nat) (i : Int) (h : i.toNat < k) : bt (x.extract 0 k) i = bt x i := by
  rw [← rd_bytesOf, ← rd_bytesOf]
  unfold rd bytesOf
  rw [data_ext, List.drop_zero, List.map_take]
  simp only [List.getD_eq_getElem?_getD]
  rw [List.getElem?_take_of_lt h]
theorem split_at (s : ByteArray) (n : Nat) : s.extract 0 n ++ s.extract n s.size = s := by
  apply ba_ext
  rw [data_app, data_ext, data_ext, show s.data.toList.take s.size = s.data.toList from List.take_of_length_le (by rw [data_length]; omega)]
  simp
theorem ext_app_lt (x r : ByteArray) (k : Nat) (h : k ≤ x.size) : (x ++ r).extract 0 k = x.extract 0 k := by
  apply ba_ext
  rw [data_ext, data_ext, data_app, List.take_append_of_le_length (by rw [data_length]; exact h)]
theorem ext_app_ge (x r : ByteArray) (k : Nat) (h : x.size ≤ k) : (x ++ r).extract 0 k = x ++ r.extract 0 (k - x.size) := by
  apply ba_ext
  rw [data_ext, data_app, data_app, data_ext, List.take_append, List.take_of_length_le (by rw [data_length]; exact h), data_length]
  simp

theorem take_app (x r : ByteArray) (n : Nat) (most : Int) (hx : x.size = n) (hb : 0 < n → bt x 0 ≤ most) : takeB (x ++ r) n most = .ok (x, r) := by
  subst hx
  have h1 : takeBad (x ++ r) x.size most = false := by
    simp only [takeBad, Bool.and_eq_false_iff, decide_eq_false_iff_not]
    by_cases h0 : 0 < x.size
    · right; right
      rw [bt_app x r 0 h0]
      have := hb h0
      omega
    · left; omega
  unfold takeB
  rw [if_neg (by rw [h1]; decide), if_neg (by rw [size_app]; omega), ext_app_l, ext_app_r]
theorem take_few (x : ByteArray) (n : Nat) (most : Int) (hx : x.size < n) (hb : 0 < x.size → bt x 0 ≤ most) : takeB x n most = .error 5 := by
  have h1 : takeBad x n most = false := by
    simp only [takeBad, Bool.and_eq_false_iff, decide_eq_false_iff_not]
    by_cases h0 : 0 < x.size
    · right; right; have := hb h0; omega
    · right; left; omega
  unfold takeB
  rw [if_neg (by rw [h1]; decide), if_pos hx]
/-- A beginning of 'x ++ r': too few, or x and a beginning of r. -/
theorem take_begin (x r : ByteArray) (n k : Nat) (most : Int) (hx : x.size = n) (hb : 0 < n → bt x 0 ≤ most) :
    takeB ((x ++ r).extract 0 k) n most = if k < n then .error 5 else .ok (x, r.extract 0 (k - n)) := by
  by_cases hk : k < n
  · rw [if_pos hk, ext_app_lt x r k (by omega)]
    have hs : (x.extract 0 k).size = k := by simp; omega
    exact take_few _ n most (by omega) (fun h => by rw [bt_ext x k 0 (by omega)]; exact hb (by omega))
  · rw [if_neg hk, ext_app_ge x r k (by omega), hx]
    exact take_app x _ n most hx hb

/-! ### numbers and their bytes -/
def be' (v : Int) : Nat → List Int
  | 0 => []
  | k + 1 => (v / 2 ^ (8 * k) % 256) :: be' v k
theorem be'_length (v : Int) (n : Nat) : (be' v n).length = n := by induction n with
  | zero => rfl
  | succ n ih => simp [be', ih]
theorem be'_get (v : Int) : ∀ (n i : Nat), i < n → (be' v n)[i]? = some (v / 2 ^ (8 * (n - 1 - i)) % 256) := by
  intro n
  induction n with
  | zero => intro i h; omega
  | succ n ih =>
    intro i h
    cases i with
    | zero => simp [be']
    | succ i => simp only [be', List.getElem?_cons_succ]; rw [ih i (by omega), show n - 1 - i = n + 1 - 1 - (i + 1) from by omega]
theorem beI_be' (v : Int) (n : Nat) : beI v n = be' v n := by
  apply List.ext_getElem?
  intro i
  by_cases h : i < n
  · rw [be'_get v n i h]
    simp [beI, beAt, h]
  · rw [List.getElem?_eq_none (by rw [beI_length]; omega), List.getElem?_eq_none (by rw [be'_length]; omega)]
theorem pow8 (k : Nat) : (2 : Int) ^ (8 * (k + 1)) = 2 ^ (8 * k) * 256 := by rw [show 8 * (k + 1) = 8 * k + 8 from by omega, Int.pow_add]; rfl
theorem pow_pos' (k : Nat) : (0 : Int) < 2 ^ k := Int.pow_pos (by decide)
theorem div8 (v : Int) (k : Nat) : v / 2 ^ (8 * (k + 1)) = v / 2 ^ (8 * k) / 256 := by
  rw [pow8, Int.ediv_ediv_of_nonneg (Int.le_of_lt (pow_pos' _))]
theorem ofNat_range (x : Int) (h : 0 ≤ x ∧ x < 256) : ((UInt8.ofNat x.toNat).toNat : Int) = x := by
  rw [UInt8.toNat_ofNat']
  omega
theorem getF_be' (v : Int) : ∀ k, getF ((be' v k).map fun n => UInt8.ofNat n.toNat) (v / 2 ^ (8 * k)) = v := by
  intro k
  induction k with
  | zero => simp [be', getF]
  | succ k ih =>
    simp only [be', List.map_cons]
    show getF _ (v / 2 ^ (8 * (k + 1)) * 256 + _) = v
    rw [ofNat_range _ (by omega), div8, show v / 2 ^ (8 * k) / 256 * 256 + v / 2 ^ (8 * k) % 256 = v / 2 ^ (8 * k) from by omega]
    exact ih
theorem getBe_beI (v : Int) (k : Nat) (h0 : -128 ≤ v / 2 ^ (8 * k)) (h1 : v / 2 ^ (8 * k) < 128) : getBe (strOfNums (beI v (k + 1))).data.toList = v := by
  rw [strOfNums_data, beI_be']
  simp only [be', List.map_cons, getBe]
  rw [ofNat_range _ (by omega), show sgn8 (v / 2 ^ (8 * k) % 256) = v / 2 ^ (8 * k) from by unfold sgn8; split <;> omega]
  exact getF_be' v k
theorem getBe8 (v : Int) (h0 : -9223372036854775808 ≤ v) (h1 : v ≤ 9223372036854775807) : getBe (strOfNums (beI v 8)).data.toList = v := by
  have e : (2 : Int) ^ (8 * 7) = 72057594037927936 := by decide
  exact getBe_beI v 7 (by rw [e]; omega) (by rw [e]; omega)
theorem getBe6 (v : Int) (h0 : 0 ≤ v) (h1 : v < 140737488355328) : getBe (strOfNums (beI v 6)).data.toList = v := by
  have e : (2 : Int) ^ (8 * 5) = 1099511627776 := by decide
  exact getBe_beI v 5 (by rw [e]; omega) (by rw [e]; omega)
theorem getF_back (l : List UInt8) : ∀ v0 : Int, be' (getF l v0) l.length = l.map (fun b => (b.toNat : Int)) ∧ getF l v0 / 2 ^ (8 * l.length) = v0 := by
  induction l with
  | nil => intro v0; simp [be', getF]
  | cons b l ih =>
    intro v0
    have hb := b.toNat_lt
    obtain ⟨h1, h2⟩ := ih (v0 * 256 + (b.toNat : Int))
    have e : getF (b :: l) v0 = getF l (v0 * 256 + (b.toNat : Int)) := rfl
    rw [e]
    refine ⟨?_, ?_⟩
    · simp only [List.length_cons, be', List.map_cons]
      rw [h1, h2]
      congr 1
      omega
    · rw [List.length_cons, div8, h2]
      omega
theorem beI_getBe (l : List UInt8) (n : Nat) (hl : l.length = n) (h : 0 < n) : beI (getBe l) n = l.map (fun b => (b.toNat : Int)) := by
  subst hl
  rw [beI_be']
  cases l with
  | nil => simp at h
  | cons b l =>
    have hb := b.toNat_lt
    obtain ⟨h1, h2⟩ := getF_back l (sgn8 b.toNat)
    simp only [getBe, List.length_cons, be', List.map_cons]
    rw [h1, h2, show sgn8 (b.toNat : Int) % 256 = (b.toNat : Int) from by unfold sgn8; split <;> omega]
theorem son_bytesOf (s : ByteArray) : strOfNums (bytesOf s) = s := by
  apply ByteArray.ext
  apply Array.ext'
  rw [strOfNums_data]
  unfold bytesOf
  rw [List.map_map]
  conv => rhs; rw [← List.map_id s.data.toList]
  apply List.map_congr_left
  intro b _
  simp
theorem son_getBe (s : ByteArray) (n : Nat) (hs : s.size = n) (h : 0 < n) : strOfNums (beI (getBe s.data.toList) n) = s := by
  rw [beI_getBe _ n (by rw [data_length]; exact hs) h]
  exact son_bytesOf s
end Go.Proofs.Ytlkdehflipfpbaa
