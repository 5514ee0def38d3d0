import Derived.Test.YtlkdehflipfpbaaA8
namespace Go.Proofs.Ytlkdehflipfpbaa
open Go.RowKit Go.Proofs.YtlkdehflipfpbaaW.PrintWords

set_option maxRecDepth 100000 in
set_option maxHeartbeats 1000000 in
theorem put_long (f : Fr) (A : Option Addr) (n c : Nat) (w : World) (hn : f.nums.length = n) (h : okHead f) (hl : 100 < n ∨ 60000 < f.data.size) :
    Calls Try.prog 9 #[.agg #[.int .i64 f.kind, .int .i64 f.src, .int .i64 f.tick, .slice A n c, .string f.data]] w (PutBad w) := by
  obtain ⟨kd, sr, tk, xs, dt⟩ := f
  dsimp only [okHead] at h hl ⊢
  clear hn
  obtain ⟨h1, h2, h3, h4, h5, h6⟩ := h
  have hB := Lib.hid (fun x : Array Value => (Below.refl _ w).alloc (Nat.le_refl _) (.cells x 26))
  go_enter Try.func9, Try.ntmps9
  go_wp2_with fail
  refine (fixPut6_calls tk h5 h6 _).mono ?_
  rintro e w1 ⟨rfl, hb⟩
  have kf := (hb.block w.heap.size (by simp)).trans (heap_alloc_new w (.cells #[.int .i64 kd, .int .i64 sr, .int .i64 tk, .slice A n c, .string dt] 26))
  have hbw := below_then (hB.out _) (hB.out _).size hb
  have c0 : w1.cell? ⟨w.heap.size, 0, none⟩ = some (.int .i64 kd) := blk_cell kf 0
  have c1 : w1.cell? ⟨w.heap.size, 1, none⟩ = some (.int .i64 sr) := blk_cell kf 1
  have c2 : w1.cell? ⟨w.heap.size, 2, none⟩ = some (.int .i64 tk) := blk_cell kf 2
  have c3 : w1.cell? ⟨w.heap.size, 3, none⟩ = some (.slice A n c) := blk_cell kf 3
  have c4 : w1.cell? ⟨w.heap.size, 4, none⟩ = some (.string dt) := blk_cell kf 4
  rcases hl with hl | hl
  · go_wp2_with fail
    go_ret2
    exact ⟨2, by decide, rfl, hbw⟩
  · go_wp2_with fail
    all_goals
      go_ret2
      exact ⟨2, by decide, rfl, hbw⟩

structure OwnB (e : TypeId) (v8 : Value) (B : List Int) (w W : World) : Prop where
  own : W.ownsRow w.heap.size e 1 v8 B.length (nums .u8 B)
  below : Below w.heap.size w W
theorem OwnB.then {e : TypeId} {v8 : Value} {B : List Int} {w W w9 : World} (hb : Below W.heap.size W w9) (h : OwnB e v8 B w W) : OwnB e v8 B w w9 := ⟨pw_own_below h.own hb, below_then h.below h.below.size hb⟩
theorem OwnB.drew {e : TypeId} {v8 : Value} {B : List Int} {w W : World} (h : OwnB e v8 B w W) : OwnB e v8 B w W.drew := ⟨own_drew h.own, below_drew h.below⟩
theorem keep16 {P : Program} {w W w9 : World} {t u e : TypeId} {v8 : Value} {B : List Int} {X : ByteArray} (Hc : Hid (∀ W : World, W.ownsRow w.heap.size e 1 v8 B.length (nums .u8 B) → (convert t u v8).run P W = .ok (.string X) W))
    (hb : Below W.heap.size W w9) (h : OwnB e v8 B w W) : (convert t u v8).run P w9 = .ok (.string X) w9 ∧ OwnB e v8 B w w9 := ⟨Hc.out _ (h.then hb).own, h.then hb⟩
set_option maxRecDepth 100000 in
set_option maxHeartbeats 1000000 in
theorem put_ok (f : Fr) (A : Option Addr) (n c : Nat) (w : World) (hf : okFr f) (hr : ReadsInt w .i64 A n f.nums) :
    Calls Try.prog 9 #[.agg #[.int .i64 f.kind, .int .i64 f.src, .int .i64 f.tick, .slice A n c, .string f.data]] w fun e w' => e = .returned (.tuple #[.string (putB f), .int .i64 0]) ∧ Below w.heap.size w w' := by
  obtain ⟨kd, sr, tk, xs, dt⟩ := f
  have hfin : Hid (putB ⟨kd, sr, tk, xs, dt⟩ = putB ⟨kd, sr, tk, xs, dt⟩) := Lib.hid rfl
  dsimp only [okFr, okHead] at hf hr ⊢
  obtain ⟨⟨h1, h2, h3, h4, h5, h6⟩, h7, h8⟩ := hf
  have hxn := hr.1
  subst hxn
  have hB := Lib.hid (fun x : Array Value => (Below.refl _ w).alloc (Nat.le_refl _) (.cells x 26))
  go_enter Try.func9, Try.ntmps9
  go_wp2_with fail
  refine (fixPut6_calls tk h5 h6 _).mono ?_
  rintro e w1 ⟨rfl, hb⟩
  have kf := (hb.block w.heap.size (by simp)).trans (heap_alloc_new w (.cells #[.int .i64 kd, .int .i64 sr, .int .i64 tk, .slice A xs.length c, .string dt] 26))
  have hbw := below_then (hB.out _) (hB.out _).size hb
  have c0 : w1.cell? ⟨w.heap.size, 0, none⟩ = some (.int .i64 kd) := blk_cell kf 0
  have c1 : w1.cell? ⟨w.heap.size, 1, none⟩ = some (.int .i64 sr) := blk_cell kf 1
  have c2 : w1.cell? ⟨w.heap.size, 2, none⟩ = some (.int .i64 tk) := blk_cell kf 2
  have c3 : w1.cell? ⟨w.heap.size, 3, none⟩ = some (.slice A xs.length c) := blk_cell kf 3
  have c4 : w1.cell? ⟨w.heap.size, 4, none⟩ = some (.string dt) := blk_cell kf 4
  clear hb
  have hkm : kd % 256 = kd := by omega
  have hsm : sr % 256 = sr := by omega
  have HO0 : Hid ((w1.alloc (.cells #[.int .u8 165, .int .u8 kd, .int .u8 sr] 5)).ownsRow w.heap.size 5 1 (.slice (some ⟨w1.heap.size, 0, none⟩) 3 3) 3 (nums .u8 [165, kd, sr])) := Lib.hid (own_lit w1 w.heap.size 5 .u8 [165, kd, sr] hbw.size (by simp))
  have HB0 : Hid (Below w.heap.size w (w1.alloc (.cells #[.int .u8 165, .int .u8 kd, .int .u8 sr] 5))) := Lib.hid (hbw.alloc hbw.size _)
  have HK0 : Hid ((w1.alloc (.cells #[.int .u8 165, .int .u8 kd, .int .u8 sr] 5)).heap[w.heap.size]? = some (.cells #[.int .i64 kd, .int .i64 sr, .int .i64 tk, .slice A xs.length c, .string dt] 26 (0, 0))) := Lib.hid (blk_alloc kf _)
  have h68 : (strOfNums (beI tk 6)).size = 6 := by rw [strOfNums_size, beI_length]
  have h6b : bytesOf (strOfNums (beI tk 6)) = beI tk 6 := bytesOf_strOfNums _ (beI_range _ _)
  have H6b := Lib.hid h6b
  have H68 := Lib.hid h68
  clear h6b h68
  have Hr := Lib.hid hr
  clear hr
  have hlm : (xs.length : Int) % 256 = (xs.length : Int) := by omega
  go_wp2_with (first
    | (at_builtin; refine print_append_str (w0 := w) w.heap.size rfl (.tmp 69) (.tmp 70) 35 9 5 rfl Try.underlying35 Try.underlying9 infoByte (.slice (some ⟨w1.heap.size, 0, none⟩) 3 3) [165, kd, sr] (strOfNums (beI tk 6)) rfl rfl HO0.out HB0.out ?_ ?_ ?_; (simp; have := hbw.size; omega); (rw [H68.out]; simp); intro v1 w2 ho1 hb1 hg1; rw [H6b.out] at ho1; have kf2 := blk_grown HK0.out hg1 (own_ne HO0.out HK0.out (by decide)); have d3 : w2.cell? ⟨w.heap.size, 3, none⟩ = some (.slice A xs.length c) := blk_cell kf2 3; clear hg1; have Ho1 := Lib.hid ho1; clear ho1)
    | (at_builtin; refine print_append_num (w0 := w) w.heap.size rfl (.tmp 72) (.tmp 77) 35 5 .u8 1 rfl Try.underlying35 infoByte (by decide) v1 ([165, kd, sr] ++ beI tk 6) (xs.length : Int) rfl rfl Ho1.out hb1 hb1.size ?_ ?_; (simp [beI_length]); intro v2 w3 ho2 hb2 hg2 _; have kf3 := blk_grown kf2 hg2 (own_ne Ho1.out kf2 (by decide)); have e3 : w3.cell? ⟨w.heap.size, 3, none⟩ = some (.slice A xs.length c) := blk_cell kf3 3; clear hg2))
  have hl3 : (([165, kd, sr] ++ beI tk 6 ++ [(xs.length : Int)])).length = 10 := by simp [beI_length]
  obtain ⟨pre, hpre⟩ : ∃ pre, pre = [165, kd, sr] ++ beI tk 6 ++ [(xs.length : Int)] := ⟨_, rfl⟩
  rw [← hpre] at ho2 hl3
  have Hpre := Lib.hid hpre
  have Hl3 := Lib.hid hl3
  have Ho2 := Lib.hid ho2
  clear hpre Ho1 kf2 d3 HO0 HB0 HK0 hb1 kf ho2 hl3
  have hlm2 : (xs.length : Int) ≤ 9223372036854775807 := by omega
  go_loopw [6, 82] (fun v i W => ∃ k : Nat, k ≤ xs.length ∧ i = .int .i64 k ∧ W.ownsRow w.heap.size 5 1 v (pre ++ numsI (xs.take k)).length (nums .u8 (pre ++ numsI (xs.take k))) ∧
      W.heap[w.heap.size]? = some (.cells #[.int .i64 kd, .int .i64 sr, .int .i64 tk, .slice A xs.length c, .string dt] 26 (0, 0)) ∧ Below w.heap.size w W) (fun _ i _ => xs.length - (intOf i).toNat)
  case atStart => exact ⟨0, by omega, rfl, by simpa [numsI] using Ho2.out, kf3, hb2⟩
  case round =>
    obtain ⟨k, hk, rfl, ho, hkf, hbl⟩ := hrel
    have Ho := Lib.hid ho
    clear ho
    by_cases hlt : k < xs.length
    · obtain ⟨ad, hA, hcl⟩ := (Hr.out.below hbl).2.2 (by omega)
      subst hA
      have hck : wr.cell? (ad.add k) = some (.int .i64 (xs.getD k 0)) := hcl k hlt
      obtain ⟨x, hx⟩ : ∃ x, x = xs.getD k 0 := ⟨_, rfl⟩
      rw [← hx] at hck
      have HX : Hid (xs.take (k + 1) = xs.take k ++ [x]) := Lib.hid (by rw [List.take_succ_eq_append_getElem hlt, hx]; simp [List.getD_eq_getElem?_getD, List.getElem?_eq_getElem hlt])
      have h8 : (strOfNums (beI x 8)).size = 8 := by rw [strOfNums_size, beI_length]
      have h8b : bytesOf (strOfNums (beI x 8)) = beI x 8 := bytesOf_strOfNums _ (beI_range _ _)
      have H8 := Lib.hid h8
      have H8b := Lib.hid h8b
      clear hx h8 h8b hcl
      go_wp2_with (first
        | (go_at_call 38; refine (wput8_calls x _).mono ?_; rintro e w5 ⟨rfl, hb5⟩)
        | (at_builtin; refine print_append_str (w0 := w) w.heap.size rfl (.tmp 86) (.tmp 88) 35 9 5 rfl Try.underlying35 Try.underlying9 infoByte u6 (pre ++ numsI (xs.take k)) (strOfNums (beI x 8)) rfl rfl (pw_own_below Ho.out hb5) (below_then hbl hbl.size hb5) ?_ ?_ ?_; (have := hbl.size; have := hb5.size; omega); (rw [H8.out, List.length_append, numsI_length, List.length_take, Hl3.out]; omega); intro v6 w6 ho6 hb6 hg6; rw [H8b.out, List.append_assoc, ← numsI_snoc, ← HX.out] at ho6; have kf6 := blk_grown ((hb5.block _ (blk_lt hkf)).trans hkf) hg6 (own_ne (pw_own_below Ho.out hb5) ((hb5.block _ (blk_lt hkf)).trans hkf) (by decide)); clear hg6 hb5; have Ho6 := Lib.hid ho6; clear ho6))
      go_roundw
      case rel => exact ⟨k + 1, by omega, by go_num, Ho6.out, kf6, hb6⟩
      case measure => simp [intOf]; omega
    · have hxx : xs.take k = xs := List.take_of_length_le (by omega)
      have ho := Ho.out
      rw [hxx] at ho
      obtain ⟨b1, hb1⟩ : ∃ b1, b1 = pre ++ numsI xs := ⟨_, rfl⟩
      have hl1 : b1.length ≤ 810 := by rw [hb1, List.length_append, numsI_length, Hl3.out]; omega
      rw [← hb1] at ho
      have Hb1 := Lib.hid hb1
      have Ho1 := Lib.hid ho
      clear hxx hb1 ho Ho
      have d3 : wr.cell? ⟨w.heap.size, 4, none⟩ = some (.string dt) := blk_cell hkf 4
      obtain ⟨l1, hl1'⟩ : ∃ l1 : Int, l1 = (dt.size : Int) / 256 := ⟨_, rfl⟩
      obtain ⟨l2, hl2'⟩ : ∃ l2 : Int, l2 = (dt.size : Int) % 256 := ⟨_, rfl⟩
      have hm1 : (dt.size : Int) / 256 = l1 := hl1'.symm
      have hm2 : (dt.size : Int) % 256 = l2 := hl2'.symm
      have HL1 := Lib.hid hl1'
      have HL2 := Lib.hid hl2'
      clear hl1' hl2'
      have HR0 : Hid (ReadsInt (wr.alloc (.cells #[.int .u8 l1, .int .u8 l2] 5)) .u8 (some ⟨wr.heap.size, 0, none⟩) 2 [l1, l2]) := Lib.hid (by
        obtain ⟨A', c', he, hrd⟩ := own_reads (own_lit wr wr.heap.size 5 .u8 [l1, l2] (Nat.le_refl _) (by simp))
        injection he with h1 h2 h3
        subst h1
        exact hrd)
      have HO1 : Hid ((wr.alloc (.cells #[.int .u8 l1, .int .u8 l2] 5)).ownsRow w.heap.size 5 1 u6 b1.length (nums .u8 b1)) := Lib.hid (own_alloc Ho1.out _)
      have HB1 : Hid (Below w.heap.size w (wr.alloc (.cells #[.int .u8 l1, .int .u8 l2] 5))) := Lib.hid (hbl.alloc hbl.size _)
      have HK1 := Lib.hid (blk_alloc hkf (.cells #[.int .u8 l1, .int .u8 l2] 5))
      go_wp2_with (first
        | (at_builtin; refine print_append_row (w0 := w) w.heap.size rfl (.tmp 91) (.tmp 101) 35 5 .u8 1 rfl Try.underlying35 infoByte (by decide) u6 b1 [l1, l2] (some ⟨wr.heap.size, 0, none⟩) 2 2 rfl rfl HO1.out HR0.out HB1.out ?_ ?_ ?_; (simp; have := hbl.size; omega); omega; intro v7 w7 ho7 hb7 hg7 _; have kf7 := blk_grown HK1.out hg7 (own_ne HO1.out HK1.out (by decide)); have d7 : w7.cell? ⟨w.heap.size, 4, none⟩ = some (.string dt) := blk_cell kf7 4; clear hg7; have Ho7 := Lib.hid ho7; clear ho7)
        | (at_builtin; refine print_append_str (w0 := w) w.heap.size rfl (.tmp 103) (.tmp 105) 35 9 5 rfl Try.underlying35 Try.underlying9 infoByte v7 (b1 ++ [l1, l2]) dt rfl rfl Ho7.out hb7 hb7.size ?_ ?_; (simp; omega); intro v8 w8 ho8 hb8 hg8; clear hg8; have Ho8 := Lib.hid ho8; clear ho8))
      obtain ⟨B, hB'⟩ : ∃ B, B = b1 ++ [l1, l2] ++ bytesOf dt := ⟨_, rfl⟩
      have ho8 := Ho8.out
      rw [← hB'] at ho8
      have HBl : Hid (B.length ≤ 60812) := Lib.hid (by rw [hB', List.length_append, bytesOf_length]; simp; omega)
      have HBe : Hid (putB ⟨kd, sr, tk, xs, dt⟩ = strOfNums B ++ strOfNums (beI (crc (strOfNums B).data.toList) 5)) := Lib.hid (by
        have : bodyI ⟨kd, sr, tk, xs, dt⟩ = B := by
          rw [hB', Hb1.out, Hpre.out, HL1.out, HL2.out]
          simp [bodyI, headI]
        unfold putB
        rw [this])
      have hcv := own_string (P := Try.prog) (src := 35) (dst := 9) Try.underlying35 Try.underlying5 Try.underlying9 ho8
      have hcvB : ∀ W : World, W.ownsRow w.heap.size 5 1 v8 B.length (nums .u8 B) → (convert 35 9 v8).run Try.prog W = .ok (.string (strOfNums B)) W := fun W h => own_string (P := Try.prog) (src := 35) (dst := 9) Try.underlying35 Try.underlying5 Try.underlying9 h
      have HcvB := Lib.hid hcvB
      clear hcvB hB'
      obtain ⟨X, hX⟩ : ∃ X, X = strOfNums B := ⟨_, rfl⟩
      have hXs : X.size ≤ 60812 := by rw [hX, strOfNums_size]; exact HBl.out
      have hcr := crc_range X.data.toList
      rw [← hX] at hcv HcvB HBe
      clear hX
      obtain ⟨q, hq⟩ : ∃ q, q = crc X.data.toList := ⟨_, rfl⟩
      rw [← hq] at hcr HBe
      have HQ := Lib.hid hq
      clear hq
      have h5 : (strOfNums (beI q 5)).size = 5 := by rw [strOfNums_size, beI_length]
      obtain ⟨Y, hY⟩ : ∃ Y, Y = strOfNums (beI q 5) := ⟨_, rfl⟩
      rw [← hY] at h5 HBe
      have HY := Lib.hid hY
      clear hY
      have h5' : Y.size ≤ 5 := by omega
      clear h5
      have hadd : ∀ W : World, (Op.stringOp .add X Y).run Try.prog W = .ok (.string (X ++ Y)) W := fun W => run_string_add_sum (P := Try.prog) (w := W) X Y (by omega)
      go_region_held3 (fun W => (convert 35 9 v8).run Try.prog W = .ok (.string X) W ∧ OwnB 5 v8 B w W)
        (first | exact ⟨HcvB.out _ (own_drew ho8), OwnB.drew ⟨ho8, hb8⟩⟩ | assumption | exact hS9)
        (first | (go_at_call 39; refine (fixSum_calls X (by omega) _).mono ?_; rw [← HQ.out]; rintro e w' ⟨rfl, rfl⟩) | (go_at_call 38; refine (wput5_calls q hcr.1 hcr.2 _).mono ?_; rw [← HY.out]; rintro e w9 ⟨rfl, hb9⟩; have hS9 := keep16 HcvB hb9 (OwnB.drew ⟨ho8, hb8⟩)))
      go_split_ands
      go_wp2_with fail
      go_ret2
      exact ⟨by rw [HBe.out]; rfl, OwnB.below (by assumption)⟩
end Go.Proofs.Ytlkdehflipfpbaa
