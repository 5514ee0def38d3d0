import Derived.Test.YtlkdehflipfpbaaE2
namespace Go.Proofs.Ytlkdehflipfpbaa
open Go.RowKit Go.Proofs.YtlkdehflipfpbaaW.PrintWords

def NxtInv (g : Nat) (b : ByteArray) (l : Int) (j : Nat) (w W : World) : Prop :=
  ∃ i : Nat, i ≤ j ∧ Rdr g (b.extract i b.size) (l + i) W ∧ W.heap[w.heap.size]? = some (.cells #[.int .i64 0, .int .i64 0, .int .i64 0, .slice none 0 0, .string ⟨#[]⟩] 26 (0, 0)) ∧ Below g w W
def NxtPost (g : Nat) (b : ByteArray) (l : Int) (j : Nat) (r : Fr × Int × Int) (w : World) (e : Ending) (w' : World) : Prop :=
  (r.2.2 = 5 ∧ e = .returned (.tuple #[.agg #[.int .i64 0, .int .i64 0, .int .i64 0, .slice none 0 0, .string ⟨#[]⟩], .bool false]) ∧ Rdr g (b.extract j b.size) (l + j) w' ∧ Below g w w') ∨
  (r.2.2 = 0 ∧ ∃ v, e = .returned (.tuple #[.agg #[.int .i64 r.1.kind, .int .i64 r.1.src, .int .i64 r.1.tick, v, .string r.1.data], .bool true]) ∧ w'.ownsRow w.heap.size 3 1 v r.1.nums.length (nums .i64 r.1.nums) ∧
    Rdr g (b.extract (j + r.2.1.toNat) b.size) (l + j) w' ∧ Below g w w')
def leftR (g : Nat) (W : World) : Nat := match W.cell? ⟨g, 0, none⟩ with
  | some (.string s) => s.size
  | _ => 0
theorem leftR_is {g : Nat} {b : ByteArray} {l : Int} {W : World} (h : Rdr g b l W) : leftR g W = b.size := by
  unfold leftR
  rw [h.cell0]

theorem far5 {W : World} {g : Nat} {t : TypeId} {cs : Array Value} (h : W.heap[g]? = some (.cells cs t (0, 0))) (B : Nat) (hne : g ≠ B) (a b c d e : Value) : (((((W.setCell ⟨B, 0, none⟩ a).setCell ⟨B, 1, none⟩ b).setCell ⟨B, 2, none⟩ c).setCell ⟨B, 3, none⟩ d).setCell ⟨B, 4, none⟩ e).heap[g]? = some (.cells cs t (0, 0)) :=
  blk_far (blk_far (blk_far (blk_far (blk_far h (p := ⟨B, 0, none⟩) hne a) (p := ⟨B, 1, none⟩) hne b) (p := ⟨B, 2, none⟩) hne c) (p := ⟨B, 3, none⟩) hne d) (p := ⟨B, 4, none⟩) hne e
theorem below5 {n : Nat} {w W : World} (h : Below n w W) (B : Nat) (hB : n ≤ B) (a b c d e : Value) : Below n w (((((W.setCell ⟨B, 0, none⟩ a).setCell ⟨B, 1, none⟩ b).setCell ⟨B, 2, none⟩ c).setCell ⟨B, 3, none⟩ d).setCell ⟨B, 4, none⟩ e) :=
  ((((h.setCell (p := ⟨B, 0, none⟩) hB a).setCell (p := ⟨B, 1, none⟩) hB b).setCell (p := ⟨B, 2, none⟩) hB c).setCell (p := ⟨B, 3, none⟩) hB d).setCell (p := ⟨B, 4, none⟩) hB e
theorem own5 {W : World} {base n : Nat} {ty : TypeId} {size : Nat} {v : Value} {xs : List Value} (h : W.ownsRow base ty size v n xs) (B : Nat) (hB : some B ≠ v.ownBlock) (a b c d e : Value) : (((((W.setCell ⟨B, 0, none⟩ a).setCell ⟨B, 1, none⟩ b).setCell ⟨B, 2, none⟩ c).setCell ⟨B, 3, none⟩ d).setCell ⟨B, 4, none⟩ e).ownsRow base ty size v n xs :=
  own_setCell (own_setCell (own_setCell (own_setCell (own_setCell h (p := ⟨B, 0, none⟩) hB a) (p := ⟨B, 1, none⟩) hB b) (p := ⟨B, 2, none⟩) hB c) (p := ⟨B, 3, none⟩) hB d) (p := ⟨B, 4, none⟩) hB e

set_option maxRecDepth 100000 in
set_option maxHeartbeats 4000000 in
theorem next_calls (g : Nat) (b : ByteArray) (l : Int) (j : Nat) (r : Fr × Int × Int) (w : World) (hR : Rdr g b l w) (hb : b.size ≤ 1000000) (hl : 0 ≤ l ∧ l ≤ 1000000)
    (hj : j ≤ b.size) (hn : ∀ i, i < j → bt b (i : Int) ≠ 165) (hg : getB (b.extract j b.size) = r) (hr : r.2.2 = 5 ∨ (r.2.2 = 0 ∧ ∃ n : Nat, r.2.1 = n ∧ j + n ≤ b.size)) :
    Calls Try.prog 35 #[.pointer (some ⟨g, 0, none⟩)] w (NxtPost g b l j r w) := by
  obtain ⟨f, n, q⟩ := r
  dsimp only at hr
  have hgl := blk_lt hR
  have HN := Lib.hid hn
  have HG := Lib.hid hg
  have HQ := Lib.hid hr
  have HI0 : Hid (NxtInv g b l j w (w.alloc (.cells #[.int .i64 0, .int .i64 0, .int .i64 0, .slice none 0 0, .string ⟨#[]⟩] 26))) := Lib.hid
    ⟨0, by omega, by rw [ext_all, show l + ((0 : Nat) : Int) = l from by omega]; exact heap_old w _ _ hR, heap_alloc_new w _, (Below.refl _ w).alloc (by omega) _⟩
  clear hR hn hg hr
  go_enter Try.func35, Try.ntmps35
  go_wp2_with fail
  go_loopw [] (fun W => NxtInv g b l j w W) (fun W => leftR g W)
  case atStart => exact HI0.out
  case round =>
    obtain ⟨i, hi, hRi, hZ, hbw⟩ := hrel
    have HRi := Lib.hid hRi
    have HZ := Lib.hid hZ
    have HBw := Lib.hid hbw
    have c0 := hRi.cell0
    have c1 := hRi.cell1
    have hsz : (b.extract i b.size).size = b.size - i := by rw [size_ext]; omega
    have HS := Lib.hid hsz
    clear hRi hZ hbw
    go_wp2_with fail
    refine (get_calls (b.extract i b.size) (by rw [HS.out]; omega) _).mono ?_
    by_cases hij : i < j
    · rw [getB_noise _ (by rw [HS.out]; omega) (by have := bt_cut b i b.size 0 (by omega) (Nat.le_refl _); rw [show ((0 : Nat) : Int) = 0 from rfl] at this; rw [this]; exact HN.out i hij)]
      rintro e w2 ⟨v, rfl, ho2, hb2⟩
      obtain ⟨Av, cv, hv⟩ := own_slice ho2
      subst hv
      dsimp only at ho2 ⊢
      have HR2 := Lib.hid (HRi.out.below hb2 (blk_lt HRi.out))
      have HZ2 := Lib.hid ((hb2.block _ (blk_lt HZ.out)).trans HZ.out)
      have HB2 := Lib.hid (below_then HBw.out (by have := blk_lt HRi.out; omega) hb2)
      clear ho2 hb2 c0 c1
      have HR3 : Hid (∀ x : Array Value, Rdr g (b.extract i b.size) (l + i) (w2.alloc (.cells x 26))) := Lib.hid (fun x => heap_old w2 (.cells x 26) _ HR2.out)
      have d0 := fun x => (HR3.out x).cell0
      have d1 := fun x => (HR3.out x).cell1
      have e0 := fun x => (HR3.out x).fz 0
      have e1 := fun x => (HR3.out x).fz 1
      go_wp2_with fail
      have hx1 : (b.extract i b.size).extract 1 (b.size - i) = b.extract (i + 1) b.size := by rw [ext_gen, show min (i + (b.size - i)) b.size = b.size from by omega]
      have R4 := ((HR3.out #[.int .i64 0, .int .i64 0, .int .i64 0, .slice Av 0 cv, .string ⟨#[]⟩]).put0 (b' := b.extract (i + 1) b.size)).put1 (l' := l + i + 1)
      rw [hx1, leftR_is R4, leftR_is HRi.out, HS.out, size_ext]
      refine ⟨⟨i + 1, by omega, by rw [show l + ((i + 1 : Nat) : Int) = l + i + 1 from by omega]; exact R4, ?_, ?_⟩, by omega⟩
      · rw [Below.heap_setCell _ _ _ _ (by show w.heap.size ≠ g; omega), Below.heap_setCell _ _ _ _ (by show w.heap.size ≠ g; omega)]
        exact heap_old w2 _ _ HZ2.out
      · exact ((HB2.out.alloc (by have := blk_lt HR2.out; omega) _).setCell (p := ⟨g, 0, none⟩) (Nat.le_refl g) _).setCell (p := ⟨g, 1, none⟩) (Nat.le_refl g) _
    · have hij : i = j := by omega
      subst hij
      rw [HG.out]
      rintro e w2 ⟨v, rfl, ho2, hb2⟩
      obtain ⟨Av, cv, hv⟩ := own_slice ho2
      subst hv
      dsimp only at ho2 ⊢
      have HR2 := Lib.hid (HRi.out.below hb2 (blk_lt HRi.out))
      have HZ2 := Lib.hid ((hb2.block _ (blk_lt HZ.out)).trans HZ.out)
      have HB2 := Lib.hid (below_then HBw.out (by have := blk_lt HRi.out; omega) hb2)
      have HO2 := Lib.hid ho2
      clear ho2 hb2 c0 c1
      have HR3 : Hid (∀ x : Array Value, Rdr g (b.extract i b.size) (l + i) (w2.alloc (.cells x 26))) := Lib.hid (fun x => heap_old w2 (.cells x 26) _ HR2.out)
      have HZ3 : Hid (∀ x : Array Value, (w2.alloc (.cells x 26)).heap[w.heap.size]? = some (.cells #[.int .i64 0, .int .i64 0, .int .i64 0, .slice none 0 0, .string ⟨#[]⟩] 26 (0, 0))) := Lib.hid (fun x => heap_old w2 (.cells x 26) _ HZ2.out)
      have d0 := fun x => (HR3.out x).cell0
      have d1 := fun x => (HR3.out x).cell1
      have e0 := fun x => (HR3.out x).fz 0
      have e1 := fun x => (HR3.out x).fz 1
      have z0 : w2.frozen? ⟨w.heap.size, 0, none⟩ = false := blk_frozen HZ2.out 0
      have y0 : w2.cell? ⟨w.heap.size, 0, none⟩ = some (.int .i64 0) := blk_cell HZ2.out 0
      have z1 : w2.frozen? ⟨w.heap.size, 1, none⟩ = false := blk_frozen HZ2.out 1
      have y1 : w2.cell? ⟨w.heap.size, 1, none⟩ = some (.int .i64 0) := blk_cell HZ2.out 1
      have z2 : w2.frozen? ⟨w.heap.size, 2, none⟩ = false := blk_frozen HZ2.out 2
      have y2 : w2.cell? ⟨w.heap.size, 2, none⟩ = some (.int .i64 0) := blk_cell HZ2.out 2
      have z3 : w2.frozen? ⟨w.heap.size, 3, none⟩ = false := blk_frozen HZ2.out 3
      have y3 : w2.cell? ⟨w.heap.size, 3, none⟩ = some (.slice none 0 0) := blk_cell HZ2.out 3
      have z4 : w2.frozen? ⟨w.heap.size, 4, none⟩ = false := blk_frozen HZ2.out 4
      have y4 : w2.cell? ⟨w.heap.size, 4, none⟩ = some (.string ⟨#[]⟩) := blk_cell HZ2.out 4
      have hzl := blk_lt HZ2.out
      rcases HQ.out with hq | ⟨hq, m, hm, hjm⟩
      · subst hq
        go_wp2_with fail
        refine bodyPost_ret (v := .tuple #[.agg #[.int .i64 0, .int .i64 0, .int .i64 0, .slice none 0 0, .string ⟨#[]⟩], .bool false]) ?_ rfl ?_
        · simp [results, Try.results35, go_sem, *]
        · refine .inl ⟨rfl, rfl, ?_, ?_⟩
          · exact heap_old _ _ _ (far5 HR2.out _ (by omega) _ _ _ _ _)
          · exact (below5 HB2.out _ (by omega) _ _ _ _ _).alloc (by simp [World.setCell]; omega) _
      · subst hq hm
        have Hx1 : Hid ((b.extract i b.size).extract m (b.size - i) = b.extract (i + m) b.size) := Lib.hid (by rw [ext_gen, show min (i + (b.size - i)) b.size = b.size from by omega])
        go_wp2_with fail
        refine bodyPost_ret (v := .tuple #[.agg #[.int .i64 f.kind, .int .i64 f.src, .int .i64 f.tick, .slice Av f.nums.length cv, .string f.data], .bool true]) ?_ rfl ?_
        · simp [results, Try.results35, go_sem, *]
        · have ho := own_weaken HO2.out (base' := w.heap.size) (by have := blk_lt HZ.out; omega)
          refine .inr ⟨rfl, _, rfl, ?_, ?_, ?_⟩
          · exact own5 (own_setCell (own_alloc ho _) (p := ⟨g, 0, none⟩) (own_ne ho HR2.out (by decide)) _) _ (own_ne ho HZ2.out (by decide)) _ _ _ _ _
          · rw [Hx1.out]
            exact far5 (HR3.out _).put0 _ (by omega) _ _ _ _ _
          · exact below5 ((HB2.out.alloc (by omega) _).setCell (p := ⟨g, 0, none⟩) (Nat.le_refl g) _) _ (by omega) _ _ _ _ _
end Go.Proofs.Ytlkdehflipfpbaa
