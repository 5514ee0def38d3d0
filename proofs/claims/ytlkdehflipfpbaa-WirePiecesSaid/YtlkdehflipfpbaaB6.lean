import Derived.Test.YtlkdehflipfpbaaB5
namespace Go.Proofs.Ytlkdehflipfpbaa
open Go.RowKit Go.Proofs.YtlkdehflipfpbaaW.PrintWords

/-- '[]byte(s)': a new row of the call's own. -/
theorem str_bytes {P : Program} (w : World) (src dst e : TypeId) (s : ByteArray) (hs : P.underlying src = some .string) (hd : P.underlying dst = some (.slice e)) (he : P.underlying e = some (.int .u8)) :
    ∃ cap cs W1, (convert src dst (.string s)).run P w = .ok (.slice (some ⟨w.heap.size, 0, none⟩) s.size cap) W1 ∧ W1.heap[w.heap.size]? = some (.cells cs e (cs.size, cs.size + 1)) ∧ s.size ≤ cs.size ∧
      (∀ j, j < s.size → cs[j]? = some (.int .u8 (bt s j))) ∧ Below w.heap.size w W1 ∧ W1.heap.size = w.heap.size + 1 := by
  refine ⟨_, _, _, run_bytes_of_string w src dst e s hs hd he, heap_alloc_new w.drew _, ?_, ?_, ?_, ?_⟩
  · show s.data.size ≤ _
    simp [bytesRow]
  · intro j hj
    have hj' : j < s.data.size := hj
    rw [bytesRow_at s _ j hj']
    simp only [bt, Int.toNat_natCast, dif_pos hj]
    rfl
  · exact (below_drew (Below.refl _ w)).alloc (by simp) _
  · rw [World.size_alloc]; simp
theorem set_any {w : World} {g : Nat} {t : TypeId} {cs : Array Value} {m : Nat × Nat} (h : w.heap[g]? = some (.cells cs t m)) (i : Nat) (u : Value) : (w.setCell ⟨g, i, none⟩ u).heap[g]? = some (.cells (cs.setIfInBounds i u) t m) := by
  simp [World.setCell, Array.getElem?_modify, h]
theorem wrap_is {x : Int} {k : Nat} (h : x = (k : Int)) (hk : k < 9223372036854775808) : wrap64 x = (k : Int) := by
  unfold wrap64
  omega
theorem heap_old (w : World) (x : Obj) {i : Nat} (o : Obj) (h : w.heap[i]? = some o) : (w.alloc x).heap[i]? = some o := by
  have := blk_lt h
  show (w.heap.push x)[i]? = _
  rw [Array.getElem?_push, if_neg (by omega)]
  exact h
/-- The string s with the byte z at its place k. -/
def chg (s : ByteArray) (k : Nat) (z : Int) : ByteArray := strOfNums ((bytesOf s).set k z)
theorem chg_size (s : ByteArray) (k : Nat) (z : Int) : (chg s k z).size = s.size := by
  unfold chg
  rw [strOfNums_size, List.length_set, bytesOf_length]
theorem bt_of (s : ByteArray) (k : Nat) (hk : k < s.size) : (bytesOf s)[k]? = some (bt s k) := by
  have hk' : k < s.data.size := hk
  unfold bytesOf bt
  rw [dif_pos (by simpa using hk)]
  simp
  exact ⟨_, Array.getElem?_eq_getElem hk', rfl⟩
/-- One byte turned by another that is not nought. -/
theorem xor8 (a b : Int) (ha : 0 ≤ a ∧ a ≤ 255) (hb : 0 ≤ b ∧ b ≤ 255) (hne : b ≠ 0) : (0 ≤ bits .xor .u8 a b ∧ bits .xor .u8 a b < 256) ∧ bits .xor .u8 a b ≠ a := by
  obtain ⟨x, rfl⟩ := Int.eq_ofNat_of_zero_le ha.1
  obtain ⟨y, rfl⟩ := Int.eq_ofNat_of_zero_le hb.1
  have h1 : (BitVec.ofInt 8 (x : Int)).toNat = x := by
    rw [BitVec.ofInt_natCast, BitVec.toNat_ofNat]; exact Nat.mod_eq_of_lt (by omega)
  have h2 : (BitVec.ofInt 8 (y : Int)).toNat = y := by
    rw [BitVec.ofInt_natCast, BitVec.toNat_ofNat]; exact Nat.mod_eq_of_lt (by omega)
  have hx : x ^^^ y < 2 ^ 8 := Nat.xor_lt_two_pow (by omega) (by omega)
  have he : bits .xor .u8 (x : Int) (y : Int) = ((x ^^^ y : Nat) : Int) := by
    show IntKind.u8.wrap ((BitVec.ofInt 8 (x : Int) ^^^ BitVec.ofInt 8 (y : Int)).toNat : Int) = _
    rw [BitVec.toNat_xor, h1, h2, IntKind.wrap_u8]
    omega
  rw [he]
  refine ⟨by omega, fun h => hne ?_⟩
  have h' : x ^^^ y = x := by omega
  have : x ^^^ (x ^^^ y) = x ^^^ x := by rw [h']
  rw [← Nat.xor_assoc, Nat.xor_self, Nat.zero_xor] at this
  omega
theorem chg_ne (s : ByteArray) (k : Nat) (z : Int) (hk : k < s.size) (hz : 0 ≤ z ∧ z < 256) (hne : z ≠ bt s k) : chg s k z ≠ s := by
  intro h
  have h1 : bytesOf (chg s k z) = (bytesOf s).set k z := by
    unfold chg
    refine bytesOf_strOfNums _ fun x hx => ?_
    rcases List.mem_or_eq_of_mem_set hx with h | h
    · obtain ⟨i, hi, rfl⟩ := List.getElem_of_mem h
      have hl : i < s.size := by rw [bytesOf_length] at hi; exact hi
      have := bt_of s i hl
      rw [List.getElem?_eq_getElem hi] at this
      injection this with this
      rw [this]
      have := bt_range s i
      omega
    · rw [h]; exact hz
  rw [h] at h1
  have h2 := bt_of s k hk
  rw [h1, List.getElem?_set_self (by rw [bytesOf_length]; exact hk)] at h2
  injection h2 with h2
  exact hne h2

set_option maxRecDepth 100000 in
set_option maxHeartbeats 2000000 in
theorem changed_ok (kd sr tk at0 : Int) (u : Int) (A : Option Addr) (n c : Nat) (xs : List Int) (dt : ByteArray) (w : World) (hr : ReadsInt w .i64 A n xs)
    (hok : okFr ⟨kd, sr, tk, xs, dt⟩) :
    Calls Try.prog 4 #[.agg #[.int .i64 kd, .int .i64 sr, .int .i64 tk, .slice A n c, .string dt], .int .i64 at0, .int .i64 u] w fun e w' => e = .returned (.bool true) ∧ Below w.heap.size w w' := by
  have hB := Lib.hid (fun x : Array Value => (Below.refl _ w).alloc (Nat.le_refl _) (.cells x 26))
  obtain ⟨f, hf⟩ : ∃ f, f = Fr.mk kd sr tk xs dt := ⟨_, rfl⟩
  rw [← hf] at hok
  have hxl := hr.1
  subst hxl
  have hr1 := Lib.hid (hr.below (hB.out #[.int .i64 kd, .int .i64 sr, .int .i64 tk, .slice A xs.length c, .string dt]))
  have hsz := put_size f
  obtain ⟨B, hBb⟩ : ∃ B, B = putB f := ⟨_, rfl⟩
  have hs1 : 17 ≤ B.size ∧ B.size ≤ 70000 := by rw [hBb, hsz]; have := hok.2; omega
  have HP := Lib.hid (put_ok f A xs.length c (w.alloc (.cells #[.int .i64 kd, .int .i64 sr, .int .i64 tk, .slice A xs.length c, .string dt] 26)) hok (by rw [hf]; exact hr1.out))
  rw [← hBb] at HP
  have HBb := Lib.hid hBb
  have Hf := Lib.hid hf
  have Hr := Lib.hid hr
  clear hBb hf hok hsz hr
  go_enter Try.func4, Try.ntmps4
  go_wp2_with fail
  have HP := HP.out
  rw [Hf.out] at HP
  refine HP.mono ?_
  clear HP
  rintro e w1 ⟨rfl, hb1⟩
  have hz : ((B.size : Int) == 0) = false := beq_eq_false_iff_ne.2 (by omega)
  have kf := (hb1.block w.heap.size (by simp)).trans (heap_alloc_new w (.cells #[.int .i64 kd, .int .i64 sr, .int .i64 tk, .slice A xs.length c, .string dt] 26))
  have c4 : w1.cell? ⟨w.heap.size, 4, none⟩ = some (.string dt) := blk_cell kf 4
  have hlt := blk_lt kf
  have Hkf := Lib.hid kf
  clear kf
  have hbw := below_then (hB.out _) (hB.out _).size hb1
  by_cases h2 : dt.size ≤ 3000
  rotate_left
  · go_wp2_with (go_at_call 8; refine (alive_calls _).mono ?_; rintro e w2 ⟨rfl, hb⟩)
    all_goals
      go_ret
      exact ⟨rfl, below_then hbw hbw.size hb⟩
  by_cases h3 : u % 256 = 0
  · go_wp2_with (go_at_call 8; refine (alive_calls _).mono ?_; rintro e w2 ⟨rfl, hb⟩)
    all_goals
      go_ret
      exact ⟨rfl, below_then hbw hbw.size hb⟩
  obtain ⟨cap, cs, W1, hcv, hh1, hcs, hat, hbc, hW1⟩ := str_bytes (P := Try.prog) w1 9 35 5 B Try.underlying9 Try.underlying35 Try.underlying5
  have Hbw1 := Lib.hid (below_then hbw hbw.size hbc)
  have HBW1 := Lib.hid hbc
  clear hbw hbc hb1
  obtain ⟨r, hr⟩ : ∃ r, at0.tmod (B.size : Int) = r := ⟨_, rfl⟩
  have hr0 : -(B.size : Int) < r ∧ r < (B.size : Int) := by
    rw [← hr]
    have h1 := Int.tmod_lt_of_pos at0 (show (0 : Int) < (B.size : Int) by omega)
    have h2 := Int.lt_tmod_of_pos at0 (show (0 : Int) < (B.size : Int) by omega)
    omega
  have Hbc := Lib.hid hcv
  have Hh1 := Lib.hid hh1
  have Hat := Lib.hid hat
  clear hh1 hat
  have h3' : u % 256 ≠ 0 := h3
  have hu := Int.emod_nonneg u (show (256 : Int) ≠ 0 by decide)
  have hu2 := Int.emod_lt_of_pos u (show (0 : Int) < 256 by decide)
  obtain ⟨k, hkl, hkr⟩ : ∃ k : Nat, k < B.size ∧ ((r < 0 ∧ r + (B.size : Int) = (k : Int)) ∨ (¬ r < 0 ∧ r = (k : Int))) := by
    by_cases h : r < 0
    · exact ⟨(r + B.size).toNat, by omega, .inl ⟨h, by omega⟩⟩
    · exact ⟨r.toNat, by omega, .inr ⟨h, by omega⟩⟩
  obtain ⟨zz, hzz⟩ : ∃ z, bits BinOp.xor IntKind.u8 (bt B k) (u % 256) = z := ⟨_, rfl⟩
  obtain ⟨hzr, hzn⟩ := xor8 (bt B k) (u % 256) (bt_range B k) (by omega) h3'
  rw [hzz] at hzr hzn
  have hCne := chg_ne B k zz hkl hzr hzn
  have hCs := chg_size B k zz
  have hcell : W1.cell? ⟨w1.heap.size, k, none⟩ = some (.int .u8 (bt B k)) := (cell_of_row W1 _ k cs _ _ Hh1.out).trans (Hat.out k hkl)
  have hfz : W1.frozen? ⟨w1.heap.size, k, none⟩ = false := by
    simp [World.frozen?, Hh1.out]
    omega
  obtain ⟨W2, hW2⟩ : ∃ W2, W1.setCell ⟨w1.heap.size, k, none⟩ (.int .u8 zz) = W2 := ⟨_, rfl⟩
  obtain ⟨C, hC⟩ : ∃ C, C = chg B k zz := ⟨_, rfl⟩
  have hback : (convert 35 9 (.slice (some ⟨w1.heap.size, 0, none⟩) B.size cap)).run Try.prog W2 = .ok (.string C) W2 := by
    rw [hC]
    refine run_convert_bytes_arg W2 35 5 Try.underlying35 Try.underlying5 w1.heap.size 0 B.size cap ((bytesOf B).set k zz) (by rw [List.length_set, bytesOf_length]) (fun i hi => ?_) 9 Try.underlying9
    rw [← hW2, Nat.zero_add]
    refine (cell_of_row _ _ i _ _ _ (set_any Hh1.out k (.int .u8 zz))).trans ?_
    rw [Array.getElem?_setIfInBounds]
    by_cases hik : k = i
    · subst hik
      rw [if_pos rfl, if_pos (by omega), List.getD_eq_getElem?_getD, List.getElem?_set_self (by rw [bytesOf_length]; exact hkl)]
      rfl
    · rw [if_neg hik, Hat.out i hi, List.getD_eq_getElem?_getD, List.getElem?_set_ne hik, bt_of B i hi]
      rfl
  have hbel : Below w.heap.size w W2 := by
    rw [← hW2]
    exact Hbw1.out.setCell (by show w.heap.size ≤ w1.heap.size; omega) _
  rw [← hC] at hCne hCs
  have hkf2 : W2.heap[w.heap.size]? = some (.cells #[.int .i64 kd, .int .i64 sr, .int .i64 tk, .slice A xs.length c, .string dt] 26 (0, 0)) := by
    rw [← hW2, Below.heap_setCell W1 _ _ _ (by show w.heap.size ≠ w1.heap.size; omega)]
    exact (HBW1.out.block _ hlt).trans Hkf.out
  have Hkf2 := Lib.hid hkf2
  have Hbel := Lib.hid hbel
  have HCne := Lib.hid hCne
  clear hkf2 hbel hCne hC
  have hu0 : (u % 256 == 0) = false := beq_eq_false_iff_ne.2 h3'
  have hd3 : decide (3000 < (dt.size : Int)) = false := decide_eq_false (by omega)
  obtain ⟨g, m, q, hG, hor⟩ : ∃ g m q, getB C = (g, m, q) ∧ (q ≠ 0 ∨ m ≠ (B.size : Int) ∨ g ≠ f) := by
    rcases hrd : readB C with q | ⟨g, m⟩
    · exact ⟨_, _, _, by unfold getB; rw [hrd], .inr (.inl (by omega))⟩
    · refine ⟨g, m, 0, by unfold getB; rw [hrd], ?_⟩
      by_cases hm : m = (B.size : Int)
      · refine .inr (.inr fun hgf => HCne.out ?_)
        rw [read_back C g m hrd (by rw [hm, hCs]), HBb.out, hgf]
      · exact .inr (.inl hm)
  have HG := Lib.hid hG
  have Hor := Lib.hid hor
  clear hG hor
  rcases hkr with ⟨hneg, hk⟩ | ⟨hneg, hk⟩
  · have hwr : wrap64 (r + (B.size : Int)) = (k : Int) := wrap_is hk (by omega)
    skip
    go_wp2_with fail
    refine (get_calls C (by omega) _).mono ?_
    rw [HG.out]
    rintro e w3 ⟨v, rfl, ho3, hb3⟩
    obtain ⟨Av, cv, hv⟩ := own_slice ho3
    subst hv
    dsimp only at ho3 ⊢
    have Hbw3 := Lib.hid (below_then Hbel.out Hbel.out.size hb3)
    have Hf3 := Lib.hid ((hb3.block _ (by have := blk_lt Hkf2.out; omega)).trans Hkf2.out)
    have Hr3 := Lib.hid (Hr.out.below Hbw3.out)
    obtain ⟨A', c', he, hrd⟩ := own_reads ho3
    injection he with he1 he2 he3
    subst he1
    clear he2 he3 c'
    have Hrd3 := Lib.hid hrd
    clear hrd ho3 hb3
    go_wp2_with fail
    refine (alive_calls _).mono ?_
    rintro e w4 ⟨rfl, hb4⟩
    have Hb4 := Lib.hid hb4
    have Hbw4 := Lib.hid (below_then (Hbw3.out.alloc Hbw3.out.size (.cells #[.int .i64 g.kind, .int .i64 g.src, .int .i64 g.tick, .slice Av g.nums.length cv, .string g.data] 26)) (by have := Hbw3.out.size; simp; omega) hb4)
    have Hr4 := Lib.hid (Hr.out.below Hbw4.out)
    have Hrd4 := Lib.hid ((Hrd3.out.below (below_alloc (Below.refl _ w3) (.cells #[.int .i64 g.kind, .int .i64 g.src, .int .i64 g.tick, .slice Av g.nums.length cv, .string g.data] 26))).below hb4)
    have kf4 := (hb4.block w.heap.size (by simp; have := blk_lt Hf3.out; omega)).trans (heap_old w3 (.cells #[.int .i64 g.kind, .int .i64 g.src, .int .i64 g.tick, .slice Av g.nums.length cv, .string g.data] 26) _ Hf3.out)
    have kg4 := (hb4.block w3.heap.size (by simp)).trans (heap_alloc_new w3 (.cells #[.int .i64 g.kind, .int .i64 g.src, .int .i64 g.tick, .slice Av g.nums.length cv, .string g.data] 26))
    have c0 : w4.cell? ⟨w.heap.size, 0, none⟩ = some (.int .i64 kd) := blk_cell kf4 0
    have c1 : w4.cell? ⟨w.heap.size, 1, none⟩ = some (.int .i64 sr) := blk_cell kf4 1
    have c2 : w4.cell? ⟨w.heap.size, 2, none⟩ = some (.int .i64 tk) := blk_cell kf4 2
    have c3 : w4.cell? ⟨w.heap.size, 3, none⟩ = some (.slice A xs.length c) := blk_cell kf4 3
    have c4 : w4.cell? ⟨w.heap.size, 4, none⟩ = some (.string dt) := blk_cell kf4 4
    have d0 : w4.cell? ⟨w3.heap.size, 0, none⟩ = some (.int .i64 g.kind) := blk_cell kg4 0
    have d1 : w4.cell? ⟨w3.heap.size, 1, none⟩ = some (.int .i64 g.src) := blk_cell kg4 1
    have d2 : w4.cell? ⟨w3.heap.size, 2, none⟩ = some (.int .i64 g.tick) := blk_cell kg4 2
    have d3 : w4.cell? ⟨w3.heap.size, 3, none⟩ = some (.slice Av g.nums.length cv) := blk_cell kg4 3
    have d4 : w4.cell? ⟨w3.heap.size, 4, none⟩ = some (.string g.data) := blk_cell kg4 4
    clear kf4 kg4 hb4 hcell hfz
    by_cases hq : q = 0
    rotate_left
    · have hq1 : (q != 0) = true := bne_iff_ne.2 hq
      clear hq
      go_wp2_with fail
      go_ret
      exact ⟨rfl, Hbw4.out⟩
    by_cases hm : m = (B.size : Int)
    rotate_left
    · have hq1 : (q != 0) = false := by rw [hq]; rfl
      have hm1 : (m != (B.size : Int)) = true := bne_iff_ne.2 hm
      clear hq hm
      go_wp2_with fail
      go_ret
      exact ⟨rfl, Hbw4.out⟩
    have hgf : g ≠ f := by
      rcases Hor.out with h | h | h
      · exact absurd hq h
      · exact absurd hm h
      · exact h
    have Hgf := Lib.hid hgf
    have hq1 : (q != 0) = false := by rw [hq]; rfl
    have hm1 : (m != (B.size : Int)) = false := by rw [hm]; simp
    clear hq hm hgf
    go_wp2_with fail
    refine (same_calls kd sr tk g.kind g.src g.tick _ _ _ _ c cv xs g.nums dt g.data _ Hr4.out Hrd4.out).mono ?_
    rintro e w5 ⟨rfl, hb5⟩
    rw [decide_eq_false (fun h => Hgf.out (by
      obtain ⟨h1, h2, h3, h4, h5⟩ := h
      rw [Hf.out]
      cases g
      simp only at h1 h2 h3 h4 h5
      rw [h1, h2, h3, h4, h5]))]
    go_wp2_with fail
    go_ret
    exact ⟨rfl, below_then Hbw4.out Hbw4.out.size hb5⟩
  · skip
    subst hk
    go_wp2_with fail
    refine (get_calls C (by omega) _).mono ?_
    rw [HG.out]
    rintro e w3 ⟨v, rfl, ho3, hb3⟩
    obtain ⟨Av, cv, hv⟩ := own_slice ho3
    subst hv
    dsimp only at ho3 ⊢
    have Hbw3 := Lib.hid (below_then Hbel.out Hbel.out.size hb3)
    have Hf3 := Lib.hid ((hb3.block _ (by have := blk_lt Hkf2.out; omega)).trans Hkf2.out)
    have Hr3 := Lib.hid (Hr.out.below Hbw3.out)
    obtain ⟨A', c', he, hrd⟩ := own_reads ho3
    injection he with he1 he2 he3
    subst he1
    clear he2 he3 c'
    have Hrd3 := Lib.hid hrd
    clear hrd ho3 hb3
    go_wp2_with fail
    refine (alive_calls _).mono ?_
    rintro e w4 ⟨rfl, hb4⟩
    have Hb4 := Lib.hid hb4
    have Hbw4 := Lib.hid (below_then (Hbw3.out.alloc Hbw3.out.size (.cells #[.int .i64 g.kind, .int .i64 g.src, .int .i64 g.tick, .slice Av g.nums.length cv, .string g.data] 26)) (by have := Hbw3.out.size; simp; omega) hb4)
    have Hr4 := Lib.hid (Hr.out.below Hbw4.out)
    have Hrd4 := Lib.hid ((Hrd3.out.below (below_alloc (Below.refl _ w3) (.cells #[.int .i64 g.kind, .int .i64 g.src, .int .i64 g.tick, .slice Av g.nums.length cv, .string g.data] 26))).below hb4)
    have kf4 := (hb4.block w.heap.size (by simp; have := blk_lt Hf3.out; omega)).trans (heap_old w3 (.cells #[.int .i64 g.kind, .int .i64 g.src, .int .i64 g.tick, .slice Av g.nums.length cv, .string g.data] 26) _ Hf3.out)
    have kg4 := (hb4.block w3.heap.size (by simp)).trans (heap_alloc_new w3 (.cells #[.int .i64 g.kind, .int .i64 g.src, .int .i64 g.tick, .slice Av g.nums.length cv, .string g.data] 26))
    have c0 : w4.cell? ⟨w.heap.size, 0, none⟩ = some (.int .i64 kd) := blk_cell kf4 0
    have c1 : w4.cell? ⟨w.heap.size, 1, none⟩ = some (.int .i64 sr) := blk_cell kf4 1
    have c2 : w4.cell? ⟨w.heap.size, 2, none⟩ = some (.int .i64 tk) := blk_cell kf4 2
    have c3 : w4.cell? ⟨w.heap.size, 3, none⟩ = some (.slice A xs.length c) := blk_cell kf4 3
    have c4 : w4.cell? ⟨w.heap.size, 4, none⟩ = some (.string dt) := blk_cell kf4 4
    have d0 : w4.cell? ⟨w3.heap.size, 0, none⟩ = some (.int .i64 g.kind) := blk_cell kg4 0
    have d1 : w4.cell? ⟨w3.heap.size, 1, none⟩ = some (.int .i64 g.src) := blk_cell kg4 1
    have d2 : w4.cell? ⟨w3.heap.size, 2, none⟩ = some (.int .i64 g.tick) := blk_cell kg4 2
    have d3 : w4.cell? ⟨w3.heap.size, 3, none⟩ = some (.slice Av g.nums.length cv) := blk_cell kg4 3
    have d4 : w4.cell? ⟨w3.heap.size, 4, none⟩ = some (.string g.data) := blk_cell kg4 4
    clear kf4 kg4 hb4 hcell hfz
    by_cases hq : q = 0
    rotate_left
    · have hq1 : (q != 0) = true := bne_iff_ne.2 hq
      clear hq
      go_wp2_with fail
      go_ret
      exact ⟨rfl, Hbw4.out⟩
    by_cases hm : m = (B.size : Int)
    rotate_left
    · have hq1 : (q != 0) = false := by rw [hq]; rfl
      have hm1 : (m != (B.size : Int)) = true := bne_iff_ne.2 hm
      clear hq hm
      go_wp2_with fail
      go_ret
      exact ⟨rfl, Hbw4.out⟩
    have hgf : g ≠ f := by
      rcases Hor.out with h | h | h
      · exact absurd hq h
      · exact absurd hm h
      · exact h
    have Hgf := Lib.hid hgf
    have hq1 : (q != 0) = false := by rw [hq]; rfl
    have hm1 : (m != (B.size : Int)) = false := by rw [hm]; simp
    clear hq hm hgf
    go_wp2_with fail
    refine (same_calls kd sr tk g.kind g.src g.tick _ _ _ _ c cv xs g.nums dt g.data _ Hr4.out Hrd4.out).mono ?_
    rintro e w5 ⟨rfl, hb5⟩
    rw [decide_eq_false (fun h => Hgf.out (by
      obtain ⟨h1, h2, h3, h4, h5⟩ := h
      rw [Hf.out]
      cases g
      simp only at h1 h2 h3 h4 h5
      rw [h1, h2, h3, h4, h5]))]
    go_wp2_with fail
    go_ret
    exact ⟨rfl, below_then Hbw4.out Hbw4.out.size hb5⟩

set_option maxRecDepth 100000 in
set_option maxHeartbeats 2000000 in
theorem changed_walk (kd sr tk at0 : Int) (u : Int) (A : Option Addr) (n c : Nat) (xs : List Int) (dt : ByteArray) (w : World) (hr : ReadsInt w .i64 A n xs) :
    Calls Try.prog 4 #[.agg #[.int .i64 kd, .int .i64 sr, .int .i64 tk, .slice A n c, .string dt], .int .i64 at0, .int .i64 u] w fun e w' => e = .returned (.bool true) ∧ Below w.heap.size w w' := by
  have hB := Lib.hid (fun x : Array Value => (Below.refl _ w).alloc (Nat.le_refl _) (.cells x 26))
  obtain ⟨f, hf⟩ : ∃ f, f = Fr.mk kd sr tk xs dt := ⟨_, rfl⟩
  by_cases hok : okFr f
  · exact changed_ok kd sr tk at0 u A n c xs dt w hr (by rw [← hf]; exact hok)
  · have HP := Lib.hid (put_bad f A n c (w.alloc (.cells #[.int .i64 kd, .int .i64 sr, .int .i64 tk, .slice A n c, .string dt] 26)) (by rw [hf]; exact hr.1) hok)
    have Hf := Lib.hid hf
    clear hok hr hf
    go_enter Try.func4, Try.ntmps4
    go_wp2_with fail
    have HP := HP.out
    rw [Hf.out] at HP
    refine HP.mono ?_
    clear HP
    rintro e w1 ⟨q, hq, rfl, hb1⟩
    have hq' : (q != 0) = true := bne_iff_ne.2 hq
    have kf := (hb1.block w.heap.size (by simp)).trans (heap_alloc_new w (.cells #[.int .i64 kd, .int .i64 sr, .int .i64 tk, .slice A n c, .string dt] 26))
    have c4 : w1.cell? ⟨w.heap.size, 4, none⟩ = some (.string dt) := blk_cell kf 4
    have hbw := below_then (hB.out _) (hB.out _).size hb1
    clear hq kf
    go_wp2_with (go_at_call 8; refine (alive_calls _).mono ?_; rintro e w2 ⟨rfl, hb⟩)
    all_goals
      go_ret
      exact ⟨rfl, below_then hbw hbw.size hb⟩
end Go.Proofs.Ytlkdehflipfpbaa
