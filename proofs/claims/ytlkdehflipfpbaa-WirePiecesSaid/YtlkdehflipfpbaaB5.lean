import Derived.Test.YtlkdehflipfpbaaB4
namespace Go.Proofs.Ytlkdehflipfpbaa
open Go.RowKit Go.Proofs.YtlkdehflipfpbaaW.PrintWords

theorem takeB_inv {s : ByteArray} {n : Nat} {most : Int} {x r : ByteArray} (h : takeB s n most = .ok (x, r)) : s = x ++ r ∧ x.size = n := by
  obtain ⟨_, _, h3, h4, h5, _⟩ := takeB_ok h
  exact ⟨by rw [h3, h4, split_at], h5⟩
theorem bytes_one (x : ByteArray) (h : x.size = 1) : x = strOfNums [bt x 0] := by
  rw [← rd_bytesOf]
  conv => lhs; rw [← son_bytesOf x]
  have hl := bytesOf_length x
  rw [h] at hl
  match hb : bytesOf x, hl with
  | [a], _ => rfl
theorem bytes_two (x : ByteArray) (h : x.size = 2) : x = strOfNums [bt x 0, bt x 1] := by
  rw [← rd_bytesOf, ← rd_bytesOf]
  conv => lhs; rw [← son_bytesOf x]
  have hl := bytesOf_length x
  rw [h] at hl
  match hb : bytesOf x, hl with
  | [a, c], _ => rfl
theorem nums_inv : ∀ (k : Nat) (s : ByteArray) (acc xs : List Int) (r : ByteArray), numsB k s acc = .ok (xs, r) → ∃ ys, xs = acc ++ ys ∧ ys.length = k ∧ s = strOfNums (numsI ys) ++ r := by
  intro k
  induction k with
  | zero =>
    intro s acc xs r h
    simp only [numsB] at h
    injection h with h
    injection h with h1 h2
    subst h1 h2
    exact ⟨[], by simp, rfl, by apply ba_ext; rw [data_app]; rfl⟩
  | succ k ih =>
    intro s acc xs r h
    simp only [numsB] at h
    rcases ht : takeB s 8 255 with c | ⟨x, r1⟩
    · rw [ht] at h
      cases h
    · rw [ht] at h
      dsimp only at h
      obtain ⟨hs, hx⟩ := takeB_inv ht
      obtain ⟨ys, h1, h2, h3⟩ := ih _ _ _ _ h
      refine ⟨getBe x.data.toList :: ys, by rw [h1]; simp, by simp [h2], ?_⟩
      rw [hs, h3]
      have e : numsI (getBe x.data.toList :: ys) = beI (getBe x.data.toList) 8 ++ numsI ys := rfl
      rw [e, son_append, son_getBe x 8 hx (by omega), app_assoc]
theorem prefix_eq {l p : List UInt8} (h : Lib.hasPrefix l p = true) (hl : p.length = l.length) : p = l := by
  unfold Lib.hasPrefix at h
  rw [List.isPrefixOf_iff_prefix] at h
  exact List.IsPrefix.eq_of_length h hl

theorem read_back (b : ByteArray) (g : Fr) (n : Int) (h : readB b = .ok (g, n)) (hn : n = (b.size : Int)) : b = putB g := by
  unfold readB at h
  rcases h0 : takeB b 1 255 with c | ⟨x0, s1⟩
  · rw [h0] at h; cases h
  rw [h0] at h
  dsimp only at h
  obtain ⟨e0, z0⟩ := takeB_inv h0
  by_cases q0 : bt x0 0 = 165
  rotate_left
  · rw [if_neg q0] at h; cases h
  rw [if_pos q0] at h
  rcases h1 : takeB s1 1 9 with c | ⟨x1, s2⟩
  · rw [h1] at h; cases h
  rw [h1] at h
  dsimp only at h
  obtain ⟨e1, z1⟩ := takeB_inv h1
  rcases h2 : takeB s2 1 255 with c | ⟨x2, s3⟩
  · rw [h2] at h; cases h
  rw [h2] at h
  dsimp only at h
  obtain ⟨e2, z2⟩ := takeB_inv h2
  rcases h3 : takeB s3 6 127 with c | ⟨x3, s4⟩
  · rw [h3] at h; cases h
  rw [h3] at h
  dsimp only at h
  obtain ⟨e3, z3⟩ := takeB_inv h3
  rcases h4 : takeB s4 1 100 with c | ⟨x4, s5⟩
  · rw [h4] at h; cases h
  rw [h4] at h
  dsimp only at h
  obtain ⟨e4, z4⟩ := takeB_inv h4
  rcases h5 : numsB (bt x4 0).toNat s5 [] with c | ⟨xs, s6⟩
  · rw [h5] at h; cases h
  rw [h5] at h
  dsimp only at h
  obtain ⟨ys, f1, f2, e5⟩ := nums_inv _ _ _ _ _ h5
  rw [List.nil_append] at f1
  subst f1
  unfold readT at h
  rcases h6 : takeB s6 2 234 with c | ⟨x5, s7⟩
  · rw [h6] at h; cases h
  rw [h6] at h
  dsimp only at h
  obtain ⟨e6, z6⟩ := takeB_inv h6
  by_cases q6 : bt x5 0 * 256 + bt x5 1 ≤ 60000
  rotate_left
  · rw [if_neg q6] at h; cases h
  rw [if_pos q6] at h
  rcases h7 : takeB s7 (bt x5 0 * 256 + bt x5 1).toNat 255 with c | ⟨x6, s8⟩
  · rw [h7] at h; cases h
  rw [h7] at h
  dsimp only at h
  obtain ⟨e7, z7⟩ := takeB_inv h7
  obtain ⟨S, hS⟩ : ∃ S, S = strOfNums (beI (crc (b.extract 0 (b.size - s8.size)).data.toList) 5) := ⟨_, rfl⟩
  rw [← hS] at h
  by_cases q8 : Lib.hasPrefix S.data.toList (s8.extract 0 (min s8.size 5)).data.toList = true
  rotate_left
  · rw [if_neg q8] at h; cases h
  rw [if_pos q8] at h
  rcases h8 : takeB s8 5 255 with c | ⟨x7, s9⟩
  · rw [h8] at h; cases h
  rw [h8] at h
  dsimp only at h
  obtain ⟨e8, z8⟩ := takeB_inv h8
  injection h with h
  injection h with hg hsz
  have r0 := bt_range x4 0
  have r1 := bt_range x5 0
  have r2 := bt_range x5 1
  -- what the frame is made of
  have hb : b = strOfNums (bodyI g) ++ s8 := by
    rw [body_parts, ← hg]
    unfold parts
    dsimp only
    rw [e0, e1, e2, e3, e4, e5, e6, e7]
    congr 1
    · rw [← q0]; exact bytes_one x0 z0
    congr 1
    · exact bytes_one x1 z1
    congr 1
    · exact bytes_one x2 z2
    congr 1
    · exact (son_getBe x3 6 z3 (by omega)).symm
    congr 1
    · rw [f2, Int.toNat_of_nonneg r0.1]; exact bytes_one x4 z4
    congr 2
    rw [z7, Int.toNat_of_nonneg (by omega), show (bt x5 0 * 256 + bt x5 1) / 256 = bt x5 0 from by omega, show (bt x5 0 * 256 + bt x5 1) % 256 = bt x5 1 from by omega]
    exact bytes_two x5 z6
  have hb2 : b.size = (strOfNums (bodyI g)).size + s8.size := by
    have h := congrArg ByteArray.size hb
    rwa [size_app] at h
  have hs8 : s8.size = 5 := by omega
  have hS5 : S.size = 5 := by rw [hS, strOfNums_size, beI_length]
  have hs : s8 = S := by
    apply ba_ext
    have h := prefix_eq q8 (by rw [data_length, data_length, ext_size]; omega)
    rw [hs8, show min 5 5 = s8.size from by rw [hs8]; rfl, ext_all] at h
    exact h
  have hbody : b.extract 0 (b.size - s8.size) = strOfNums (bodyI g) := by
    rw [show b.size - s8.size = (strOfNums (bodyI g)).size from by omega]
    conv => lhs; rw [hb]
    exact ext_app_l _ _
  rw [hbody] at hS
  unfold putB
  rw [← hS, ← hs]
  exact hb
end Go.Proofs.Ytlkdehflipfpbaa
