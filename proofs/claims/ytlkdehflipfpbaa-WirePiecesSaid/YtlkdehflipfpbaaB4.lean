import Derived.Test.YtlkdehflipfpbaaB3
namespace Go.Proofs.Ytlkdehflipfpbaa
open Go.RowKit Go.Proofs.YtlkdehflipfpbaaW.PrintWords

theorem put_bad (f : Fr) (A : Option Addr) (n c : Nat) (w : World) (hn : f.nums.length = n) (h : ¬ okFr f) :
    Calls Try.prog 9 #[.agg #[.int .i64 f.kind, .int .i64 f.src, .int .i64 f.tick, .slice A n c, .string f.data]] w (PutBad w) := by
  by_cases h1 : okHead f
  · exact put_long f A n c w hn h1 (by
      rcases Nat.lt_or_ge 100 n with h2 | h2
      · exact .inl h2
      · rcases Nat.lt_or_ge 60000 f.data.size with h3 | h3
        · exact .inr h3
        · exact absurd ⟨h1, by omega, h3⟩ h)
  · exact put_head_bad f A n c w h1

set_option maxRecDepth 100000 in
set_option maxHeartbeats 2000000 in
theorem back_ok (kd sr tk cut : Int) (A : Option Addr) (n c : Nat) (xs : List Int) (dt more : ByteArray) (w : World) (hr : ReadsInt w .i64 A n xs) (hx : inI64 xs)
    (h1 : n ≤ 200) (h2 : dt.size ≤ 3000) (h3 : more.size ≤ 300) (hok : okFr ⟨kd, sr, tk, xs, dt⟩) :
    Calls Try.prog 3 #[.agg #[.int .i64 kd, .int .i64 sr, .int .i64 tk, .slice A n c, .string dt], .string more, .int .i64 cut] w fun e w' => e = .returned (.bool true) ∧ Below w.heap.size w w' := by
  have hB := Lib.hid (fun x : Array Value => (Below.refl _ w).alloc (Nat.le_refl _) (.cells x 26))
  obtain ⟨f, hf⟩ : ∃ f, f = Fr.mk kd sr tk xs dt := ⟨_, rfl⟩
  rw [← hf] at hok
  have hxl := hr.1
  subst hxl
  have hr1 := Lib.hid (hr.below (hB.out #[.int .i64 kd, .int .i64 sr, .int .i64 tk, .slice A xs.length c, .string dt]))
  have hsz := put_size f
  obtain ⟨B, hBb⟩ : ∃ B, B = putB f := ⟨_, rfl⟩
  have hs1 : 17 ≤ B.size ∧ B.size ≤ 70000 := by rw [hBb, hsz]; have := hok.2; omega
  have hg := getB_put f hok (by rw [hf]; exact hx) more
  rw [← hBb] at hg
  have HC : Hid (∀ k, k < B.size → getB (B.extract 0 k) = (⟨0, 0, 0, [], ⟨#[]⟩⟩, 0, 5)) := Lib.hid (fun k hk => by rw [hBb] at hk ⊢; exact getB_cut f hok (by rw [hf]; exact hx) k hk)
  have HP := Lib.hid (put_ok f A xs.length c (w.alloc (.cells #[.int .i64 kd, .int .i64 sr, .int .i64 tk, .slice A xs.length c, .string dt] 26)) hok (by rw [hf]; exact hr1.out))
  rw [← hBb] at HP
  have HG := Lib.hid hg
  have Hf := Lib.hid hf
  have Hr := Lib.hid hr
  clear hBb hg hf hok hsz hr hx
  go_enter Try.func3, Try.ntmps3
  go_wp2_with fail
  have HP := HP.out
  rw [Hf.out] at HP
  refine HP.mono ?_
  clear HP
  rintro e w1 ⟨rfl, hb1⟩
  have hadd : ∀ W : World, (Op.stringOp .add B more).run Try.prog W = .ok (.string (B ++ more)) W := fun W => run_string_add_sum (P := Try.prog) (w := W) B more (by omega)
  go_wp2_with fail
  refine (get_calls (B ++ more) (by rw [size_app]; omega) _).mono ?_
  rw [HG.out, Hf.out]
  clear hadd
  rintro e w2 ⟨v, rfl, ho2, hb2⟩
  obtain ⟨Av, cv, hv⟩ := own_slice ho2
  subst hv
  dsimp only at ho2 ⊢
  have hb12 := below_then hb1 hb1.size hb2
  have hbw := below_then (hB.out _) (hB.out _).size hb12
  have kf := (hb12.block w.heap.size (by simp)).trans (heap_alloc_new w (.cells #[.int .i64 kd, .int .i64 sr, .int .i64 tk, .slice A xs.length c, .string dt] 26))
  have hr2 := Hr.out.below hbw
  obtain ⟨A', c', he, hrd⟩ := own_reads ho2
  injection he with he1 he2 he3
  subst he1
  clear he2 he3 c'
  have Hr3 := Lib.hid (hr2.below (below_alloc (Below.refl _ w2) (.cells #[.int .i64 kd, .int .i64 sr, .int .i64 tk, .slice Av xs.length cv, .string dt] 26)))
  have Hrd3 := Lib.hid (hrd.below (below_alloc (Below.refl _ w2) (.cells #[.int .i64 kd, .int .i64 sr, .int .i64 tk, .slice Av xs.length cv, .string dt] 26)))
  have c0 : w2.cell? ⟨w.heap.size, 0, none⟩ = some (.int .i64 kd) := blk_cell kf 0
  have c1 : w2.cell? ⟨w.heap.size, 1, none⟩ = some (.int .i64 sr) := blk_cell kf 1
  have c2 : w2.cell? ⟨w.heap.size, 2, none⟩ = some (.int .i64 tk) := blk_cell kf 2
  have c3 : w2.cell? ⟨w.heap.size, 3, none⟩ = some (.slice A xs.length c) := blk_cell kf 3
  have c4 : w2.cell? ⟨w.heap.size, 4, none⟩ = some (.string dt) := blk_cell kf 4
  have hlt := blk_lt kf
  have Hbw := Lib.hid hbw
  have Hkf := Lib.hid kf
  clear hr2 hrd ho2 hb12 hb1 hb2 hbw kf hr1
  have hne : ((B.size : Int) != (B.size : Int)) = false := by simp
  have hz : ((B.size : Int) == 0) = false := beq_eq_false_iff_ne.2 (by omega)
  go_wp2_with fail
  refine (same_calls kd sr tk kd sr tk _ _ _ _ c cv xs xs dt dt _ Hr3.out Hrd3.out).mono ?_
  rintro e w4 ⟨rfl, hb4⟩
  rw [decide_eq_true ⟨rfl, rfl, rfl, rfl, rfl⟩]
  obtain ⟨r, hr⟩ : ∃ r, cut.tmod (B.size : Int) = r := ⟨_, rfl⟩
  have hr0 : -(B.size : Int) < r ∧ r < (B.size : Int) := by
    rw [← hr]
    have h1 := Int.tmod_lt_of_pos cut (show (0 : Int) < (B.size : Int) by omega)
    have h2 := Int.lt_tmod_of_pos cut (show (0 : Int) < (B.size : Int) by omega)
    omega
  have Hb := Lib.hid (below_then (Hbw.out.alloc Hbw.out.size (.cells #[.int .i64 kd, .int .i64 sr, .int .i64 tk, .slice Av xs.length cv, .string dt] 26)) (by have := Hbw.out.size; simp; omega) hb4)
  have Hrq := Lib.hid hr
  by_cases hneg : r < 0
  · go_wp2_with fail
    refine (get_calls (B.extract 0 (r + (B.size : Int)).toNat) (by rw [ext_size]; omega) _).mono ?_
    rw [HC.out _ (by omega)]
    rintro e w5 ⟨v, rfl, ho5, hb5⟩
    obtain ⟨A5, c5, hv⟩ := own_slice ho5
    subst hv
    dsimp only at ho5 ⊢
    have Hb5 := Lib.hid (below_then Hb.out Hb.out.size hb5)
    clear ho5 hb5 hb4
    go_wp2_with (go_at_call 8; refine (alive_calls _).mono ?_; rintro e w6 ⟨rfl, hb6⟩)
    go_ret
    exact ⟨rfl, below_then (Hb5.out.alloc Hb5.out.size _) (by have := Hb5.out.size; simp; omega) hb6⟩
  · go_wp2_with fail
    refine (get_calls (B.extract 0 r.toNat) (by rw [ext_size]; omega) _).mono ?_
    rw [HC.out _ (by omega)]
    rintro e w5 ⟨v, rfl, ho5, hb5⟩
    obtain ⟨A5, c5, hv⟩ := own_slice ho5
    subst hv
    dsimp only at ho5 ⊢
    have Hb5 := Lib.hid (below_then Hb.out Hb.out.size hb5)
    clear ho5 hb5 hb4
    go_wp2_with (go_at_call 8; refine (alive_calls _).mono ?_; rintro e w6 ⟨rfl, hb6⟩)
    go_ret
    exact ⟨rfl, below_then (Hb5.out.alloc Hb5.out.size _) (by have := Hb5.out.size; simp; omega) hb6⟩
set_option maxRecDepth 100000 in
set_option maxHeartbeats 2000000 in
theorem back_walk (kd sr tk cut : Int) (A : Option Addr) (n c : Nat) (xs : List Int) (dt more : ByteArray) (w : World) (hr : ReadsInt w .i64 A n xs) (hx : inI64 xs) :
    Calls Try.prog 3 #[.agg #[.int .i64 kd, .int .i64 sr, .int .i64 tk, .slice A n c, .string dt], .string more, .int .i64 cut] w fun e w' => e = .returned (.bool true) ∧ Below w.heap.size w w' := by
  have hB := Lib.hid (fun x : Array Value => (Below.refl _ w).alloc (Nat.le_refl _) (.cells x 26))
  by_cases h0 : 200 < n ∨ 3000 < dt.size ∨ 300 < more.size
  · clear hr hx
    rcases h0 with h0 | h0 | h0
    · go_enter Try.func3, Try.ntmps3
      go_wp2_with (go_at_call 8; refine (alive_calls _).mono ?_; rintro e w1 ⟨rfl, hb⟩)
      go_ret
      exact ⟨rfl, below_then (hB.out _) (hB.out _).size hb⟩
    · go_enter Try.func3, Try.ntmps3
      go_wp2_with (go_at_call 8; refine (alive_calls _).mono ?_; rintro e w1 ⟨rfl, hb⟩)
      all_goals
        go_ret
        exact ⟨rfl, below_then (hB.out _) (hB.out _).size hb⟩
    · go_enter Try.func3, Try.ntmps3
      go_wp2_with (go_at_call 8; refine (alive_calls _).mono ?_; rintro e w1 ⟨rfl, hb⟩)
      all_goals
        go_ret
        exact ⟨rfl, below_then (hB.out _) (hB.out _).size hb⟩
  · have h1 : n ≤ 200 := by omega
    have h2 : dt.size ≤ 3000 := by omega
    have h3 : more.size ≤ 300 := by omega
    clear h0
    obtain ⟨f, hf⟩ : ∃ f, f = Fr.mk kd sr tk xs dt := ⟨_, rfl⟩
    by_cases hok : okFr f
    · exact back_ok kd sr tk cut A n c xs dt more w hr hx h1 h2 h3 (by rw [← hf]; exact hok)
    · have HP := Lib.hid (put_bad f A n c (w.alloc (.cells #[.int .i64 kd, .int .i64 sr, .int .i64 tk, .slice A n c, .string dt] 26)) (by rw [hf]; exact hr.1) hok)
      have Hf := Lib.hid hf
      clear hok hr hx hf
      go_enter Try.func3, Try.ntmps3
      go_wp2_with fail
      have HP := HP.out
      rw [Hf.out] at HP
      refine HP.mono ?_
      clear HP
      rintro e w1 ⟨q, hq, rfl, hb1⟩
      have hq' : (q != 0) = true := bne_iff_ne.2 hq
      have hbw := below_then (hB.out _) (hB.out _).size hb1
      clear hq
      go_wp2_with (go_at_call 8; refine (alive_calls _).mono ?_; rintro e w2 ⟨rfl, hb⟩)
      go_ret
      exact ⟨rfl, below_then hbw hbw.size hb⟩
end Go.Proofs.Ytlkdehflipfpbaa
