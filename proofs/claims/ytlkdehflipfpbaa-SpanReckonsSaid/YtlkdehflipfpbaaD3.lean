import Derived.Test.YtlkdehflipfpbaaD2
namespace Go.Proofs.Ytlkdehflipfpbaa.QSpanReckons
open Go.RowKit Go.Proofs.YtlkdehflipfpbaaW.PrintWords Go.Proofs.YtlkdehflipfpbaaW.PrintLast Go.Proofs.YtlkdehflipfpbaaW.PrintMore
attribute [local go_sem high] eqA48
/-- A list that is read stays so where all blocks but one stay. -/
theorem C_keepS {w W : World} {A : Option Addr} {n : Nat} {l : List Sp} {g : Nat} (h : Kd.C k48 w A n l) (hk : KeepBut w W g none) (hf : ∀ ad, A = some ad → 0 < n → ad.block ≠ g) : Kd.C k48 W A n l := by
  refine ⟨h.1, h.2.1, fun hn => ?_⟩
  obtain ⟨ad, e, hc⟩ := h.2.2 hn
  refine ⟨ad, e, fun j p hj => ?_⟩
  obtain ⟨c, hs, hr, hcell⟩ := hc j p hj
  refine ⟨c, hs, hr, fun i u hu => keep_cell hk (hcell i u hu) ?_⟩
  rw [add_block]
  exact hf ad e hn
theorem C_lt_S {w : World} {A : Option Addr} {n : Nat} {l : List Sp} (h : Kd.C k48 w A n l) : ∀ ad, A = some ad → 0 < n → ad.block < w.heap.size := by
  intro ad e hn
  subst e
  exact Kd.foot_lt (g := w.heap.size) (fun W' hk => C_keepS h hk (fun ad' e' hn' => by
    injection e' with e'
    subst e'
    obtain ⟨ad'', e'', hc⟩ := h.2.2 hn'
    injection e'' with e''
    subst e''
    have hl : 0 < l.length := by have := h.1; omega
    obtain ⟨c, hs, hr, hcell⟩ := hc 0 _ (List.getElem?_eq_getElem hl)
    have hcs : c.length = 2 := hs
    have := World.block_lt_of_cell? w _ (hcell 0 (c[0]'(by omega)) (List.getElem?_eq_getElem (by omega)))
    rw [add_block] at this
    omega)) (by have := h.1; omega) (by decide)
/-- The two spans of alive, as they lie. -/
theorem lit2 (W : World) (a b c d : Int) : Kd.C k48 (W.alloc (.cells #[.int .i64 a, .int .i64 b, .int .i64 c, .int .i64 d] 48)) (some ⟨W.heap.size, 0, none⟩) [(⟨a, b⟩ : Sp), ⟨c, d⟩].length [(⟨a, b⟩ : Sp), ⟨c, d⟩] := by
  have h2 := World.ownsRow_lit (base := W.heap.size) (e := 48) (size := 2) W #[.int .i64 a, .int .i64 b, .int .i64 c, .int .i64 d] 2 (Nat.le_refl _) (by decide) rfl
  have hr : Reps (k48.K (W.alloc (.cells #[.int .i64 a, .int .i64 b, .int .i64 c, .int .i64 d] 48))) 2 [(⟨a, b⟩ : Sp), ⟨c, d⟩] [.int .i64 a, .int .i64 b, .int .i64 c, .int .i64 d] := by
    refine ⟨rfl, fun j p hj => ?_⟩
    match j, hj with
    | 0, hj => injection hj with hj; subst hj; exact k48_mk _ ⟨a, b⟩
    | 1, hj => injection hj with hj; subst hj; exact k48_mk _ ⟨c, d⟩
    | j + 2, hj => simp at hj
  obtain ⟨A, c', he, h⟩ := own_reads_row h2 hr rfl
  injection he with e1 e2 e3
  subst e1
  exact h
instance (s : Sp) : Decidable (inS s) := by unfold inS; infer_instance
theorem plus_alive : plusS false [(⟨1, 2⟩ : Sp), ⟨10, 20⟩] = (11, 22, false) := by decide
theorem halves_alive : span_Halves.f 0 3 = some (0, 1, 2, 3) := by
  have e1 : wrap64 (IntKind.u64.wrap (Int.tdiv (IntKind.u64.wrap (IntKind.u64.wrap 3 - IntKind.u64.wrap 0)) 2)) = 1 := by decide +kernel
  have e2 : wrap64 (0 + 1) = 1 := wr1
  have e3 : wrap64 (1 + 1) = 2 := wr2
  unfold span_Halves.f span_Empty.f
  simp only [Option.bind_some]
  rw [if_neg (by decide), if_neg (by decide), e1, e2, e3]
set_option maxRecDepth 100000 in
set_option maxHeartbeats 2000000 in
theorem alive_calls (w : World) : Calls Try.prog 23 #[] w fun e w' => e = .returned (.bool true) ∧ Below w.heap.size w w' := by
  have hI0 := IsS54.new w w false (Below.refl _ w)
  have hB0 : Below w.heap.size w ((w.alloc (.cells #[.bool false] 54)).alloc (.cells #[.int .i64 1, .int .i64 2, .int .i64 10, .int .i64 20] 48)) := ((Below.refl _ w).alloc (Nat.le_refl _) _).alloc (by simp) _
  have hC0 := lit2 (w.alloc (.cells #[.bool false] 54)) 1 2 10 20
  have HI0 := Aside0.mk (hI0.alloc (.cells #[.int .i64 1, .int .i64 2, .int .i64 10, .int .i64 20] 48))
  have HB0 := Aside0.mk hB0
  rw [World.size_alloc] at hC0
  have HC0 := Aside0.mk hC0
  clear hI0 hB0 hC0
  go_enter Try.func23, Try.ntmps23
  go_wp2_with fail
  refine (span_Acc_Plus.calls 50 w.heap.size false (some ⟨w.heap.size + 1, 0, none⟩) 2 [(⟨1, 2⟩ : Sp), ⟨10, 20⟩] 11 22 false w _ HI0.out HB0.out ?_ (by simp) ?_).mono ?_
  · intro W_ hk
    exact C_keepS HC0.out hk (fun ad e _ => by injection e with e; subst e; simp)
  · rw [plus_f false _ (by simp) (by decide) 50 (by simp), plus_alive]
  rintro e w1 ⟨rfl, hI1, hB1, hK1⟩
  have HI1 := Aside0.mk hI1
  have HB1 := Aside0.mk hB1
  clear hI1 hB1 hK1 HI0 HB0 HC0
  go_wp2_with fail
  refine (span_Halves.calls 0 3 0 1 2 3 _ halves_alive).mono ?_
  rintro e w2 ⟨rfl, hb2⟩
  have hb12 := below_then (below_alloc (Below.refl _ w1) (.cells #[.int .i64 11, .int .i64 22] 48)) (below_alloc (Below.refl _ w1) _).size hb2
  have hp := (hb2.block w1.heap.size (by simp)).trans (heap_alloc_new w1 (.cells #[.int .i64 11, .int .i64 22] 48))
  have HI2 := Aside0.mk (HI1.out.below hb12)
  have HB2 := Aside0.mk (below_then HB1.out HB1.out.size hb12)
  have p0 : w2.cell? ⟨w1.heap.size, 0, none⟩ = some (.int .i64 11) := (blk_cell hp 0).trans rfl
  have p1 : w2.cell? ⟨w1.heap.size, 1, none⟩ = some (.int .i64 22) := (blk_cell hp 1).trans rfl
  have hlt := blk_lt hp
  have hc := st54_cell HI2.out
  have hltg := HI2.out.lt
  have c0 := hc.1
  clear hb2 hb12 hp HI1 HB1 hc
  obtain ⟨W3, hW3⟩ : ∃ W, W = (w2.alloc (.cells #[.int .i64 0, .int .i64 1] 48)).alloc (.cells #[.int .i64 2, .int .i64 3] 48) := ⟨_, rfl⟩
  have hb3 : Below w2.heap.size w2 (W3.alloc (.cells #[.int .i64 1, .int .i64 2] 3)) := by rw [hW3]; exact below_alloc (below_alloc (below_alloc (Below.refl _ _) _) _) _
  have hr3 : ReadsInt (W3.alloc (.cells #[.int .i64 1, .int .i64 2] 3)) .i64 (some ⟨w2.heap.size + 1 + 1, 0, none⟩) 2 [1, 2] := by
    obtain ⟨A', c', he, hrd⟩ := own_reads (own_lit W3 W3.heap.size 3 .i64 [1, 2] (Nat.le_refl _) (by simp))
    injection he with h1 h2 h3
    subst h1
    have hs : W3.heap.size = w2.heap.size + 1 + 1 := by rw [hW3]; simp
    rw [hs] at hrd
    exact hrd
  have hI3 := HI2.out.below hb3
  have hB3 := below_then HB2.out HB2.out.size hb3
  subst hW3
  have HR3 := Aside0.mk hr3
  have HI3 := Aside0.mk hI3
  have HB3 := Aside0.mk hB3
  clear hb3 hr3 hI3 hB3
  go_wp2_with fail
  have hc := st54_cell HI3.out
  refine (big.fixAdd_calls (some ⟨w2.heap.size + 1 + 1, 0, none⟩) 2 2 [1, 2] (by intro x hx; simp at hx; omega) w.heap.size false _ HR3.out hc.1 hc.2).mono ?_
  rintro e w4 ⟨rfl, hm⟩
  have hf := st54_marked HI3.out HB3.out hm
  have HBf := Aside0.mk hf.2.1
  clear hf hm hc HI3 HB3 HR3
  rw [show big.clamp (big.tot [1, 2]) = 3 by decide]
  go_wp2_with fail
  go_ret
  exact ⟨rfl, HBf.out⟩
end Go.Proofs.Ytlkdehflipfpbaa.QSpanReckons
