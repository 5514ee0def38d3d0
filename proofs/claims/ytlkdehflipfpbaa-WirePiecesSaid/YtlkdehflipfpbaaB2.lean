import Derived.Test.YtlkdehflipfpbaaB1
namespace Go.Proofs.Ytlkdehflipfpbaa
open Go.RowKit Go.Proofs.YtlkdehflipfpbaaW.PrintWords

def inI64 (xs : List Int) : Prop := ∀ x ∈ xs, -9223372036854775808 ≤ x ∧ x ≤ 9223372036854775807
theorem app_assoc (a b c : ByteArray) : a ++ b ++ c = a ++ (b ++ c) := by
  apply ba_ext
  simp only [data_app, List.append_assoc]
theorem ext_ext (x : ByteArray) (a b : Nat) : (x.extract 0 a).extract 0 b = x.extract 0 (min a b) := by
  apply ba_ext
  simp only [data_ext, List.drop_zero, List.take_take]
  rw [Nat.min_comm]
theorem ext_size (x : ByteArray) (k : Nat) : (x.extract 0 k).size = min k x.size := by
  rw [← data_length, data_ext, List.drop_zero, List.length_take, data_length]
theorem son1_size (x : Int) : (strOfNums [x]).size = 1 := by rw [strOfNums_size]; rfl
theorem bt_son (xs : List Int) (i : Nat) (h : i < xs.length) (hr : 0 ≤ xs[i] ∧ xs[i] < 256) : bt (strOfNums xs) (i : Int) = xs[i] := by
  rw [← rd_bytesOf]
  unfold rd bytesOf
  rw [strOfNums_data, List.map_map]
  simp only [Int.toNat_natCast, List.getD_eq_getElem?_getD]
  rw [List.getElem?_eq_getElem (by simpa using h)]
  simp only [List.getElem_map, Function.comp, Option.getD_some]
  exact ofNat_range _ hr
theorem bt_son1 (x : Int) (hr : 0 ≤ x ∧ x < 256) : bt (strOfNums [x]) 0 = x := bt_son [x] 0 (by simp) hr
theorem bt_be (v : Int) (k : Nat) : bt (strOfNums (beI v (k + 1))) 0 = v / 2 ^ (8 * k) % 256 := by
  rw [beI_be']
  exact bt_son (be' v (k + 1)) 0 (by simp [be']) (by simp only [be', List.getElem_cons_zero]; omega)

theorem nums_begin (xs : List Int) (hx : inI64 xs) : ∀ (r : ByteArray) (acc : List Int) (k : Nat),
    numsB xs.length ((strOfNums (numsI xs) ++ r).extract 0 k) acc = if k < 8 * xs.length then .error 5 else .ok (acc ++ xs, r.extract 0 (k - 8 * xs.length)) := by
  induction xs with
  | nil =>
    intro r acc k
    have : strOfNums (numsI []) ++ r = r := by apply ba_ext; rw [data_app]; rfl
    rw [this]
    simp [numsB]
  | cons x xs ih =>
    intro r acc k
    have hx' : inI64 xs := fun y hy => hx y (List.mem_cons_of_mem _ hy)
    have h0 := hx x (List.mem_cons_self)
    have e : strOfNums (numsI (x :: xs)) ++ r = strOfNums (beI x 8) ++ (strOfNums (numsI xs) ++ r) := by
      rw [← app_assoc, ← son_append]; rfl
    rw [e]
    show numsB (xs.length + 1) _ acc = _
    unfold numsB
    rw [take_begin (strOfNums (beI x 8)) _ 8 k 255 (by rw [strOfNums_size, beI_length]) (fun _ => (bt_range _ _).2)]
    by_cases hk : k < 8
    · rw [if_pos hk, if_pos (by simp; omega)]
    · rw [if_neg hk]
      dsimp only
      rw [getBe8 x h0.1 h0.2, ih hx']
      simp only [List.length_cons]
      by_cases hk2 : k - 8 < 8 * xs.length
      · rw [if_pos hk2, if_pos (by omega)]
      · rw [if_neg hk2, if_neg (by omega), show k - 8 - 8 * xs.length = k - 8 * (xs.length + 1) from by omega]
        simp

def parts (f : Fr) (r : ByteArray) : ByteArray :=
  strOfNums [165] ++ (strOfNums [f.kind] ++ (strOfNums [f.src] ++ (strOfNums (beI f.tick 6) ++ (strOfNums [(f.nums.length : Int)] ++ (strOfNums (numsI f.nums) ++ (strOfNums [(f.data.size : Int) / 256, (f.data.size : Int) % 256] ++ (f.data ++ r)))))))
theorem body_parts (f : Fr) (r : ByteArray) : strOfNums (bodyI f) ++ r = parts f r := by
  unfold bodyI headI parts
  have e : ([165, f.kind, f.src] : List Int) = [165] ++ ([f.kind] ++ [f.src]) := rfl
  rw [e]
  simp only [son_append, son_bytesOf, app_assoc]
theorem body_size (f : Fr) : (strOfNums (bodyI f)).size = 12 + 8 * f.nums.length + f.data.size := by
  rw [strOfNums_size]
  simp only [bodyI, headI, List.length_append, beI_length, numsI_length, bytesOf_length, List.length_cons, List.length_nil]
  omega
theorem sum_size (f : Fr) : (strOfNums (beI (crc (strOfNums (bodyI f)).data.toList) 5)).size = 5 := by rw [strOfNums_size, beI_length]
theorem put_size (f : Fr) : (putB f).size = 17 + 8 * f.nums.length + f.data.size := by
  unfold putB
  rw [size_app, body_size, sum_size]
  omega
theorem prefix_take (l : List UInt8) (k : Nat) : Lib.hasPrefix l (l.take k) = true := by
  unfold Lib.hasPrefix
  rw [List.isPrefixOf_iff_prefix]
  exact List.take_prefix k l

theorem read_begin (f : Fr) (hf : okFr f) (hx : inI64 f.nums) (more : ByteArray) (k : Nat) (hk : k ≤ (putB f ++ more).size) :
    readB ((putB f ++ more).extract 0 k) = if k < (putB f).size then .error 5 else .ok (f, ((putB f).size : Int)) := by
  obtain ⟨⟨h1, h2, h3, h4, h5, h6⟩, h7, h8⟩ := hf
  have hsz := put_size f
  have hbs := body_size f
  obtain ⟨S, hS⟩ : ∃ S, S = strOfNums (beI (crc (strOfNums (bodyI f)).data.toList) 5) := ⟨_, rfl⟩
  have hSs : S.size = 5 := by rw [hS]; exact sum_size f
  have e : putB f ++ more = parts f (S ++ more) := by
    unfold putB
    rw [← hS, app_assoc, body_parts]
  have eb : (parts f (S ++ more)).extract 0 (strOfNums (bodyI f)).size = strOfNums (bodyI f) := by rw [← body_parts, ext_app_l]
  have hk' : k ≤ (parts f (S ++ more)).size := by rw [← e]; exact hk
  have hb : ((parts f (S ++ more)).extract 0 k).size = k := by rw [ext_size]; omega
  have hps : (parts f (S ++ more)).size = (strOfNums (bodyI f)).size + (5 + more.size) := by rw [← body_parts, size_app, size_app, hSs]
  rw [e]
  obtain ⟨b, hbd⟩ : ∃ b, b = (parts f (S ++ more)).extract 0 k := ⟨_, rfl⟩
  rw [← hbd] at hb
  have ebk : (strOfNums (bodyI f)).size ≤ k → b.extract 0 (strOfNums (bodyI f)).size = strOfNums (bodyI f) := fun h => by
    rw [hbd, ext_ext, Nat.min_eq_right h]; exact eb
  rw [← hbd]
  have e5 : (2 : Int) ^ (8 * 5) = 1099511627776 := by decide
  have hT0 := take_begin (x := strOfNums [165]) (n := 1) (k := k) (most := 255) (hx := son1_size _) (hb := fun _ => (bt_range _ _).2) (r := (strOfNums [f.kind] ++ (strOfNums [f.src] ++ (strOfNums (beI f.tick 6) ++ (strOfNums [(f.nums.length : Int)] ++ (strOfNums (numsI f.nums) ++ (strOfNums [(f.data.size : Int) / 256, (f.data.size : Int) % 256] ++ (f.data ++ (S ++ more)))))))))
  have hT : takeB b 1 255 = takeB ((strOfNums [165] ++ (strOfNums [f.kind] ++ (strOfNums [f.src] ++ (strOfNums (beI f.tick 6) ++ (strOfNums [(f.nums.length : Int)] ++ (strOfNums (numsI f.nums) ++ (strOfNums [(f.data.size : Int) / 256, (f.data.size : Int) % 256] ++ (f.data ++ (S ++ more))))))))).extract 0 k) 1 255 := by rw [hbd]; rfl
  unfold readB
  rw [hT, hT0]
  by_cases c0 : k < 1
  · rw [if_pos c0, if_pos (by omega)]
  rw [if_neg c0]
  dsimp only
  rw [bt_son1 165 (by omega), if_pos rfl, take_begin (strOfNums [f.kind]) _ 1 (k - 1) 9 (son1_size _) (fun _ => by rw [bt_son1 _ (by omega)]; omega)]
  by_cases c1 : k - 1 < 1
  · rw [if_pos c1, if_pos (by omega)]
  rw [if_neg c1]
  dsimp only
  rw [take_begin (strOfNums [f.src]) _ 1 _ 255 (son1_size _) (fun _ => (bt_range _ _).2)]
  by_cases c2 : k - 1 - 1 < 1
  · rw [if_pos c2, if_pos (by omega)]
  rw [if_neg c2]
  dsimp only
  rw [take_begin (strOfNums (beI f.tick 6)) _ 6 _ 127 (by rw [strOfNums_size, beI_length]) (fun _ => by rw [bt_be, e5]; omega)]
  by_cases c3 : k - 1 - 1 - 1 < 6
  · rw [if_pos c3, if_pos (by omega)]
  rw [if_neg c3]
  dsimp only
  rw [take_begin (strOfNums [(f.nums.length : Int)]) _ 1 _ 100 (son1_size _) (fun _ => by rw [bt_son1 _ (by omega)]; omega)]
  by_cases c4 : k - 1 - 1 - 1 - 6 < 1
  · rw [if_pos c4, if_pos (by omega)]
  rw [if_neg c4]
  dsimp only
  rw [bt_son1 _ (by omega), Int.toNat_natCast, nums_begin f.nums hx]
  by_cases c5 : k - 1 - 1 - 1 - 6 - 1 < 8 * f.nums.length
  · rw [if_pos c5, if_pos (by omega)]
  rw [if_neg c5]
  dsimp only
  rw [bt_son1 _ (by omega), bt_son1 _ (by omega), getBe6 _ h5 h6, List.nil_append]
  unfold readT
  rw [take_begin (strOfNums [(f.data.size : Int) / 256, (f.data.size : Int) % 256]) _ 2 _ 234 (by rw [strOfNums_size]; rfl) (fun _ => by rw [show (0 : Int) = ((0 : Nat) : Int) from rfl, bt_son _ 0 (by simp) (by simp; omega)]; simp; omega)]
  by_cases c6 : k - 1 - 1 - 1 - 6 - 1 - 8 * f.nums.length < 2
  · rw [if_pos c6, if_pos (by omega)]
  rw [if_neg c6]
  dsimp only
  have q0 : bt (strOfNums [(f.data.size : Int) / 256, (f.data.size : Int) % 256]) 0 = (f.data.size : Int) / 256 := bt_son [_, _] 0 (by simp) (by simp; omega)
  have q1 : bt (strOfNums [(f.data.size : Int) / 256, (f.data.size : Int) % 256]) 1 = (f.data.size : Int) % 256 := bt_son [_, _] 1 (by simp) (by simp; omega)
  rw [q0, q1, show (f.data.size : Int) / 256 * 256 + (f.data.size : Int) % 256 = (f.data.size : Int) from by omega, if_pos (by omega), Int.toNat_natCast, take_begin f.data _ f.data.size _ 255 rfl (fun _ => (bt_range _ _).2)]
  by_cases c7 : k - 1 - 1 - 1 - 6 - 1 - 8 * f.nums.length - 2 < f.data.size
  · rw [if_pos c7, if_pos (by omega)]
  rw [if_neg c7]
  dsimp only
  obtain ⟨j, hj⟩ : ∃ j, j = k - 1 - 1 - 1 - 6 - 1 - 8 * f.nums.length - 2 - f.data.size := ⟨_, rfl⟩
  rw [← hj]
  have hs8 : ((S ++ more).extract 0 j).size = j := by rw [ext_size, size_app, hSs]; omega
  rw [hs8, hb, show k - j = (strOfNums (bodyI f)).size from by omega, ebk (by omega), ← hS, ext_ext, Nat.min_eq_right (Nat.min_le_left _ _)]
  have hp : Lib.hasPrefix S.data.toList ((S ++ more).extract 0 (min j 5)).data.toList = true := by
    rw [ext_app_lt _ _ _ (by omega), data_ext, List.drop_zero]
    exact prefix_take _ _
  rw [if_pos hp, take_begin S more 5 j 255 hSs (fun _ => (bt_range _ _).2)]
  by_cases c8 : j < 5
  · rw [if_pos c8, if_pos (by omega)]
  rw [if_neg c8]
  dsimp only
  rw [if_neg (by omega)]
  congr 2
  rw [hbs, hsz]
  omega
end Go.Proofs.Ytlkdehflipfpbaa
