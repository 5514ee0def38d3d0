import Derived.Test.YtlkdehflipfpbaaB5
namespace Go.Proofs.Ytlkdehflipfpbaa
open Go.RowKit Go.Proofs.YtlkdehflipfpbaaW.PrintWords

/-! ### frames with noise between them: plain -/
theorem ext_gen (x : ByteArray) (a b c d : Nat) : (x.extract a b).extract c d = x.extract (a + c) (min (a + d) b) := by
  apply ba_ext
  rw [data_ext, data_ext, data_ext, List.take_drop, List.drop_drop, List.take_take]
theorem size_ext (x : ByteArray) (a b : Nat) : (x.extract a b).size = min b x.size - a := by
  rw [← data_length, data_ext, List.length_drop, List.length_take, data_length]
theorem bt_get (x : ByteArray) (i : Nat) (h : i < x.size) : bt x (i : Int) = ((x.data.toList[i]'(by rw [data_length]; exact h)).toNat : Int) := by
  rw [← rd_bytesOf]
  unfold rd bytesOf
  simp only [Int.toNat_natCast, List.getD_eq_getElem?_getD]
  rw [List.getElem?_eq_getElem (by rw [List.length_map, data_length]; exact h)]
  simp
theorem bt_opt (x : ByteArray) (i : Nat) (b : UInt8) (h : x.data.toList[i]? = some b) : bt x (i : Int) = (b.toNat : Int) := by
  obtain ⟨h1, h2⟩ := List.getElem?_eq_some_iff.1 h
  rw [bt_get x i (by rw [← data_length]; exact h1), h2]
theorem bt_cut (x : ByteArray) (a b i : Nat) (h : a + i < b) (hb : b ≤ x.size) : bt (x.extract a b) (i : Int) = bt x ((a + i : Nat) : Int) := by
  have hl : a + i < x.data.toList.length := by rw [data_length]; omega
  rw [bt_opt x (a + i) _ (List.getElem?_eq_getElem hl)]
  refine bt_opt _ i _ ?_
  rw [data_ext, List.getElem?_drop, List.getElem?_take_of_lt h, List.getElem?_eq_getElem hl]
theorem bt_app_r (x r : ByteArray) (i : Nat) (h : i < r.size) : bt (x ++ r) ((x.size + i : Nat) : Int) = bt r (i : Int) := by
  have hl : i < r.data.toList.length := by rw [data_length]; omega
  rw [bt_opt r i _ (List.getElem?_eq_getElem hl)]
  refine bt_opt _ _ _ ?_
  rw [data_app, List.getElem?_append_right (by rw [data_length]; omega), data_length, Nat.add_sub_cancel_left, List.getElem?_eq_getElem hl]
theorem ext_skip (x r : ByteArray) (a b : Nat) (h : x.size ≤ a) : (x ++ r).extract a b = r.extract (a - x.size) (b - x.size) := by
  apply ba_ext
  rw [data_ext, data_ext, data_app]
  rcases Nat.le_total b x.size with hb | hb
  · rw [List.drop_eq_nil_of_le (by rw [List.length_take]; omega), List.drop_eq_nil_of_le (by rw [List.length_take]; omega)]
  · rw [List.take_append, List.take_of_length_le (by rw [data_length]; exact hb), data_length, List.drop_append, List.drop_eq_nil_of_le (by rw [data_length]; exact h), data_length, List.nil_append]

theorem getB_noise (s : ByteArray) (hs : 0 < s.size) (h : bt s 0 ≠ 165) : getB s = (⟨0, 0, 0, [], ⟨#[]⟩⟩, 0, 4) := by
  have hb : takeBad s ((1 : Nat) : Int) 255 = false := by
    have := bt_range s 0
    unfold takeBad
    rw [decide_eq_false (p := 255 < bt s 0) (by omega)]
    simp
  have ht : takeB s 1 255 = .ok (s.extract 0 1, s.extract 1 s.size) := by
    unfold takeB
    rw [if_neg (by rw [hb]; decide), if_neg (by omega)]
  have hr : readB s = .error 4 := by
    unfold readB
    rw [ht]
    dsimp only
    rw [bt_ext s 1 0 (by decide), if_neg h]
  unfold getB
  rw [hr]
theorem getB_none (s : ByteArray) (hs : s.size = 0) : getB s = (⟨0, 0, 0, [], ⟨#[]⟩⟩, 0, 5) := by
  have ht := take_few s 1 255 (by omega) (fun h => by omega)
  have hr : readB s = .error 5 := by
    unfold readB
    rw [ht]
  unfold getB
  rw [hr]
theorem getB_begin (f : Fr) (hf : okFr f) (hx : inI64 f.nums) (more : ByteArray) (k : Nat) (hk : k ≤ (putB f ++ more).size) :
    getB ((putB f ++ more).extract 0 k) = if k < (putB f).size then (⟨0, 0, 0, [], ⟨#[]⟩⟩, 0, 5) else (f, ((putB f).size : Int), 0) := by
  unfold getB
  rw [read_begin f hf hx more k hk]
  split <;> rename_i h1 <;> split at h1 <;> rename_i h2
  · injection h1 with h1
    rw [if_pos h2, h1]
  · cases h1
  · cases h1
  · injection h1 with h1
    injection h1 with h3 h4
    rw [if_neg h2, h4, h3]

def strm (N : ByteArray) : List Fr → ByteArray
  | [] => ⟨#[]⟩
  | f :: fs => N ++ (putB f ++ strm N fs)
theorem strm_app (N : ByteArray) (xs ys : List Fr) : strm N (xs ++ ys) = strm N xs ++ strm N ys := by
  induction xs with
  | nil => apply ba_ext; rw [data_app]; rfl
  | cons f fs ih =>
    show N ++ (putB f ++ strm N (fs ++ ys)) = (N ++ (putB f ++ strm N fs)) ++ strm N ys
    rw [ih, app_assoc, app_assoc]
theorem strm_one (N : ByteArray) (f : Fr) : strm N [f] = N ++ putB f := by
  show N ++ (putB f ++ ⟨#[]⟩) = _
  rw [app_none]
theorem strm_snoc (N : ByteArray) (xs : List Fr) (f : Fr) : strm N (xs ++ [f]) = strm N xs ++ (N ++ putB f) := by rw [strm_app, strm_one]
theorem strm_size_le (N : ByteArray) (hN : N.size ≤ 40) : ∀ xs : List Fr, (∀ f ∈ xs, okFr f ∧ f.data.size ≤ 300) → (strm N xs).size ≤ 1200 * xs.length
  | [], _ => by show (⟨#[]⟩ : ByteArray).size ≤ _; exact Nat.zero_le _
  | f :: fs, h => by
    have ih := strm_size_le N hN fs (fun g hg => h g (List.mem_cons_of_mem _ hg))
    obtain ⟨⟨_, h1, _⟩, h2⟩ := h f (List.mem_cons_self)
    have hp := put_size f
    show (N ++ (putB f ++ strm N fs)).size ≤ _
    rw [size_app, size_app, List.length_cons]
    omega

/-- Where the reader is: k frames are read; p bytes are gone, the byte 'at' is the next one to come. -/
structure At (N : ByteArray) (fs : List Fr) (k p q : Nat) : Prop where
  kl : k ≤ fs.length
  pq : p ≤ q
  qs : q ≤ (strm N fs).size
  lo : (strm N (fs.take k)).size ≤ p
  hi : p ≤ (strm N (fs.take k)).size + N.size
theorem strm_split (N : ByteArray) (fs : List Fr) (k : Nat) : strm N fs = strm N (fs.take k) ++ strm N (fs.drop k) := by
  rw [← strm_app, List.take_append_drop]
/-- What the next step of the reader does. -/
structure Step (N : ByteArray) (fs : List Fr) (k p q j : Nat) (r : Fr × Int × Int) : Prop where
  jl : p + j ≤ q
  noise : ∀ i, i < j → bt ((strm N fs).extract p q) (i : Int) ≠ 165
  got : getB (((strm N fs).extract p q).extract j ((strm N fs).extract p q).size) = r
  what : (r = (⟨0, 0, 0, [], ⟨#[]⟩⟩, 0, 5) ∧ At N fs k (p + j) q ∧ (k = fs.length ∨ q < (strm N fs).size)) ∨
    (∃ f n, fs[k]? = some f ∧ r = (f, ((n : Nat) : Int), 0) ∧ p + j + n ≤ q ∧ At N fs (k + 1) (p + j + n) q ∧ p + j + n = (strm N (fs.take (k + 1))).size ∧ p + j = (strm N (fs.take k)).size + N.size)
theorem step (N : ByteArray) (fs : List Fr) (k p q : Nat) (hN : ∀ i, i < N.size → bt N (i : Int) ≠ 165) (hf : ∀ f ∈ fs, okFr f ∧ inI64 f.nums) (h : At N fs k p q) : ∃ j r, Step N fs k p q j r := by
  obtain ⟨h1, h2, h3, h4, h5⟩ := h
  obtain ⟨S, hS⟩ : ∃ S, S = strm N fs := ⟨_, rfl⟩
  have hb : (S.extract p q).size = q - p := by rw [size_ext]; rw [hS]; omega
  have hcut : ∀ j, p + j ≤ q → (S.extract p q).extract j (S.extract p q).size = S.extract (p + j) q := fun j hj => by
    rw [ext_gen, hb, show min (p + (q - p)) q = q from by omega]
  by_cases hk : k = fs.length
  · subst hk
    rw [List.take_length] at h4 h5
    have hpq : p = q := by omega
    refine ⟨0, (⟨0, 0, 0, [], ⟨#[]⟩⟩, 0, 5), by omega, fun i hi => absurd hi (by omega), ?_, .inl ⟨rfl, ⟨h1, by omega, h3, by rw [List.take_length]; omega, by rw [List.take_length]; omega⟩, .inl rfl⟩⟩
    rw [← hS, hcut 0 (by omega)]
    exact getB_none _ (by rw [size_ext]; omega)
  · have hkl : k < fs.length := by omega
    obtain ⟨f, hfk⟩ : ∃ f, fs[k]? = some f := ⟨_, List.getElem?_eq_getElem hkl⟩
    have hmem : f ∈ fs := List.mem_of_getElem? hfk
    obtain ⟨hok, hx⟩ := hf f hmem
    have hdr : fs.drop k = f :: fs.drop (k + 1) := by
      rw [List.drop_eq_getElem_cons hkl]
      congr 1
      have := List.getElem?_eq_getElem hkl
      rw [hfk] at this
      injection this with this
      exact this.symm
    obtain ⟨X, hX⟩ : ∃ X, X = strm N (fs.take k) := ⟨_, rfl⟩
    obtain ⟨R, hR⟩ : ∃ R, R = strm N (fs.drop (k + 1)) := ⟨_, rfl⟩
    have hSp : S = X ++ (N ++ (putB f ++ R)) := by
      rw [hS, strm_split N fs k, hdr, hX, hR]
      rfl
    have htk : strm N (fs.take (k + 1)) = X ++ (N ++ putB f) := by
      rw [List.take_add_one, hfk, hX]
      exact strm_snoc N _ f
    have htk2 : (strm N (fs.take (k + 1))).size = X.size + (N.size + (putB f).size) := by rw [htk, size_app, size_app]
    rw [← hX] at h4 h5
    have hSs : S.size = X.size + (N.size + ((putB f).size + R.size)) := by rw [hSp, size_app, size_app, size_app]
    rw [← hS] at h3
    have hnoise : ∀ j, p + j ≤ q → p + j ≤ X.size + N.size → ∀ i, i < j → bt (S.extract p q) (i : Int) ≠ 165 := fun j hj hj2 i hi => by
      rw [bt_cut S p q i (by omega) (by omega), show p + i = X.size + (p + i - X.size) from by omega, hSp, bt_app_r _ _ _ (by rw [size_app]; omega), bt_app N _ _ (by rw [Int.toNat_natCast]; omega)]
      exact hN _ (by omega)
    by_cases hq : q < X.size + N.size
    · refine ⟨q - p, (⟨0, 0, 0, [], ⟨#[]⟩⟩, 0, 5), by omega, ?_, ?_, .inl ⟨rfl, ⟨h1, by omega, by rw [← hS]; exact h3, by rw [← hX]; omega, by rw [← hX]; omega⟩, .inr (by rw [← hS]; omega)⟩⟩
      · rw [← hS]; exact hnoise _ (by omega) (by omega)
      · rw [← hS, hcut _ (by omega)]
        exact getB_none _ (by rw [size_ext]; omega)
    · have hg := getB_begin f hok hx R (q - (X.size + N.size)) (by rw [size_app]; omega)
      have hcut2 : S.extract (X.size + N.size) q = (putB f ++ R).extract 0 (q - (X.size + N.size)) := by
        rw [hSp, ext_skip _ _ _ _ (by omega), ext_skip _ _ _ _ (by omega), show X.size + N.size - X.size - N.size = 0 from by omega, show q - X.size - N.size = q - (X.size + N.size) from by omega]
      have hj : p + (X.size + N.size - p) = X.size + N.size := by omega
      by_cases hq2 : q - (X.size + N.size) < (putB f).size
      · rw [if_pos hq2] at hg
        refine ⟨X.size + N.size - p, _, by omega, ?_, ?_, .inl ⟨rfl, ⟨h1, by omega, by rw [← hS]; exact h3, by rw [← hX]; omega, by rw [← hX]; omega⟩, .inr (by rw [← hS]; omega)⟩⟩
        · rw [← hS]; exact hnoise _ (by omega) (by omega)
        · rw [← hS, hcut _ (by omega), hj, hcut2, hg]
      · rw [if_neg hq2] at hg
        refine ⟨X.size + N.size - p, _, by omega, ?_, ?_, .inr ⟨f, (putB f).size, hfk, rfl, by omega, ⟨by omega, by omega, by rw [← hS]; exact h3, by rw [htk2]; omega, by rw [htk2]; omega⟩, by rw [htk2]; omega, by rw [← hX]; omega⟩⟩
        · rw [← hS]; exact hnoise _ (by omega) (by omega)
        · rw [← hS, hcut _ (by omega), hj, hcut2, hg]
end Go.Proofs.Ytlkdehflipfpbaa
