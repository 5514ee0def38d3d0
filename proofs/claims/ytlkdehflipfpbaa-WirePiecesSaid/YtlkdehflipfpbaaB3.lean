import Derived.Test.YtlkdehflipfpbaaB2
namespace Go.Proofs.Ytlkdehflipfpbaa
open Go.RowKit Go.Proofs.YtlkdehflipfpbaaW.PrintWords

theorem getB_put (f : Fr) (hf : okFr f) (hx : inI64 f.nums) (more : ByteArray) : getB (putB f ++ more) = (f, ((putB f).size : Int), 0) := by
  have h := read_begin f hf hx more (putB f ++ more).size (Nat.le_refl _)
  rw [ext_all, if_neg (by rw [size_app]; omega)] at h
  unfold getB
  rw [h]
theorem app_none (x : ByteArray) : x ++ ⟨#[]⟩ = x := by
  apply ba_ext
  rw [data_app]
  simp
theorem getB_cut (f : Fr) (hf : okFr f) (hx : inI64 f.nums) (k : Nat) (hk : k < (putB f).size) : getB ((putB f).extract 0 k) = (⟨0, 0, 0, [], ⟨#[]⟩⟩, 0, 5) := by
  have h := read_begin f hf hx ⟨#[]⟩ k (by rw [app_none]; omega)
  rw [app_none, if_pos hk] at h
  unfold getB
  rw [h]
theorem heap_at1 (w : World) (x y : Obj) : ((w.alloc x).alloc y).heap[w.heap.size + 1]? = some y := by
  have h := heap_alloc_new (w.alloc x) y
  rw [World.size_alloc] at h
  exact h
def oneFr : Fr := ⟨1, 2, 3, [5], ⟨#[]⟩⟩
theorem one_ok : okFr oneFr := by
  refine ⟨⟨?_, ?_, ?_, ?_, ?_, ?_⟩, ?_, ?_⟩ <;> decide
theorem one_in : inI64 oneFr.nums := by
  intro x hx
  simp only [oneFr, List.mem_singleton] at hx
  omega
theorem one_size : (putB oneFr).size = 25 := by rw [put_size]; rfl

set_option maxRecDepth 100000 in
set_option maxHeartbeats 1000000 in
theorem alive_calls (w : World) : Calls Try.prog 8 #[] w fun e w' => e = .returned (.bool true) ∧ Below w.heap.size w w' := by
  obtain ⟨B, hB⟩ : ∃ B, B = putB oneFr := ⟨_, rfl⟩
  have hs : B.size = 25 := by rw [hB]; exact one_size
  have hg : getB B = (oneFr, 25, 0) := by
    have h := getB_put oneFr one_ok one_in ⟨#[]⟩
    rw [app_none, ← hB, hs] at h
    exact h
  have HB := Lib.hid hB
  have HG := Lib.hid hg
  clear hB hg
  have hr1 : Hid (ReadsInt ((w.alloc (.cells #[.int .i64 5] 3)).alloc (.cells #[.int .i64 1, .int .i64 2, .int .i64 3, .slice (some ⟨w.heap.size, 0, none⟩) 1 1, .string ⟨#[]⟩] 26)) .i64 (some ⟨w.heap.size, 0, none⟩) 1 [5]) := Lib.hid (by
    obtain ⟨A', c', he, hrd⟩ := own_reads (own_lit w w.heap.size 3 .i64 [5] (Nat.le_refl _) (by simp))
    injection he with h1 h2 h3
    subst h1
    exact hrd.below (below_alloc (Below.refl _ _) _))
  have hb2 := Lib.hid (fun x y : Array Value => ((Below.refl _ w).alloc (Nat.le_refl _) (.cells x 3)).alloc (by simp) (.cells y 26))
  go_enter Try.func8, Try.ntmps8
  go_wp2_with fail
  refine (put_ok oneFr (some ⟨w.heap.size, 0, none⟩) 1 1 _ one_ok hr1.out).mono ?_
  rw [← HB.out]
  rintro e w1 ⟨rfl, hb1⟩
  go_wp2_with fail
  refine (get_calls B (by omega) _).mono ?_
  rw [HG.out]
  rintro e w3 ⟨v, rfl, ho3, hb3⟩
  obtain ⟨Av, cv, hv⟩ := own_slice ho3
  subst hv
  dsimp only [oneFr] at ho3 ⊢
  obtain ⟨W2, hW2⟩ : ∃ W2, W2 = ((w.alloc (.cells #[.int .i64 5] 3)).alloc (.cells #[.int .i64 1, .int .i64 2, .int .i64 3, .slice (some ⟨w.heap.size, 0, none⟩) 1 1, .string ⟨#[]⟩] 26)) := ⟨_, rfl⟩
  have hb13 := below_then hb1 hb1.size hb3
  have hr3 := hr1.out.below hb13
  have kf : w3.heap[w.heap.size + 1]? = some (.cells #[.int .i64 1, .int .i64 2, .int .i64 3, .slice (some ⟨w.heap.size, 0, none⟩) 1 1, .string ⟨#[]⟩] 26 (0, 0)) :=
    (hb13.block _ (by simp)).trans (heap_at1 w _ _)
  have hbw := below_then (hb2.out _ _) (hb2.out _ _).size hb13
  clear hW2 W2
  obtain ⟨g, cap, he, hg1, hg2⟩ := ho3.form (by decide)
  injection he with he1 he2 he3
  subst he1 he3
  have hc0 := (own_at' ho3 0 (by decide)).1
  obtain ⟨A', c', he, hrd⟩ := own_reads ho3
  injection he with he1 he2 he3
  subst he1
  clear he2 he3 c'
  simp only [List.getD_eq_getElem?_getD, List.getElem?_cons_zero, Option.getD_some] at hc0
  have hne : w.heap.size + 1 < w3.heap.size := blk_lt kf
  have c0 : w3.cell? ⟨w.heap.size + 1, 0, none⟩ = some (.int .i64 1) := blk_cell kf 0
  have c1 : w3.cell? ⟨w.heap.size + 1, 1, none⟩ = some (.int .i64 2) := blk_cell kf 1
  have c2 : w3.cell? ⟨w.heap.size + 1, 2, none⟩ = some (.int .i64 3) := blk_cell kf 2
  have c3 : w3.cell? ⟨w.heap.size + 1, 3, none⟩ = some (.slice (some ⟨w.heap.size, 0, none⟩) 1 1) := blk_cell kf 3
  have c4 : w3.cell? ⟨w.heap.size + 1, 4, none⟩ = some (.string ⟨#[]⟩) := blk_cell kf 4
  clear kf ho3 hr1 hb2 hb1 hb3 hb13
  have hal : g < w3.heap.size := hg2
  have hr4 := hr3.below (below_alloc (Below.refl _ w3) (.cells #[.int .i64 1, .int .i64 2, .int .i64 3, .slice (some ⟨g, 0, none⟩) 1 cv, .string ⟨#[]⟩] 26))
  have hrd4 := hrd.below (below_alloc (Below.refl _ w3) (.cells #[.int .i64 1, .int .i64 2, .int .i64 3, .slice (some ⟨g, 0, none⟩) 1 cv, .string ⟨#[]⟩] 26))
  have Hr4 := Lib.hid hr4
  have Hrd4 := Lib.hid hrd4
  have Hbw := Lib.hid hbw
  clear hr4 hrd4 hr3 hrd hbw
  go_wp2_with fail
  refine (same_calls 1 2 3 1 2 3 _ _ 1 1 1 cv [5] [5] ⟨#[]⟩ ⟨#[]⟩ _ Hr4.out Hrd4.out).mono ?_
  rintro e w5 ⟨rfl, hb5⟩
  rw [decide_eq_true ⟨rfl, rfl, rfl, rfl, rfl⟩]
  go_wp2_with fail
  go_ret
  exact ⟨rfl, below_then (Hbw.out.alloc Hbw.out.size _) (by have := Hbw.out.size; simp; omega) hb5⟩
end Go.Proofs.Ytlkdehflipfpbaa
