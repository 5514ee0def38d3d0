import Derived.Test.YtlkdehflipfpbaaProg
import Derived.Below
import Derived.Deep.Draws
import Derived.Deep.AppendLies
import Derived.Maps.AppendAt
import Derived.OwnWalk
import Derived.Laws.BytesArg
import Derived.Laws.MakeOwn
import Derived.Laws.OwnMore
import Derived.Deep.OwnRows
import Derived.Tactics
import Derived.Lib.ConvBytes
import Derived.Laws.Slices
import Derived.WalkKit
import Derived.KernelRfl
import Derived.RowKit3
import Derived.Deep.LoopGhost
import Derived.Deep.QuietTactic
import Derived.BigQuiet
import Derived.WideLaws
import Derived.Deep.DeepCutAuto
import Derived.Deep.CutBlock
import Derived.Deep.RegionHeld3
import Derived.Laws.Rows
import Derived.Lib.AppendStr
import Derived.ArgAppend
import Derived.Laws.IdiomCopy
import Derived.OrdersHeld
import Derived.Laws.BitsLemmas
import Derived.RowKit
import Derived.Outline
import Derived.WalkSmall
import Derived.WalkLawsBesides
import Derived.WalkSpells
import Derived.Lib.Hide
import Derived.Test.YtlkdehflipfpbaaTMore
import Derived.ChangeKeysEq
namespace Go.Proofs.Ytlkdehflipfpbaa.big
open Go.RowKit Go.Proofs.YtlkdehflipfpbaaW.PrintWords

/-- A number of six digits: what its cells hold. -/
def bigC (m : Bool) (d : Nat → Int) : Array Value := #[.bool m, .int .i64 (d 0), .int .i64 (d 1), .int .i64 (d 2), .int .i64 (d 3), .int .i64 (d 4), .int .i64 (d 5)]
theorem bigC_at (m : Bool) (d : Nat → Int) (i : Nat) (h : i < 6) : (bigC m d)[1 + i]? = some (.int .i64 (d i)) := by
  match i, h with
  | 0, _ => rfl
  | 1, _ => rfl
  | 2, _ => rfl
  | 3, _ => rfl
  | 4, _ => rfl
  | 5, _ => rfl
def upd (d : Nat → Int) (i : Nat) (v : Int) : Nat → Int := fun j => if j = i then v else d j
theorem bigC_set (m : Bool) (d : Nat → Int) (i : Nat) (h : i < 6) (v : Int) : (bigC m d).setIfInBounds (1 + i) (.int .i64 v) = bigC m (upd d i v) := by
  match i, h with
  | 0, _ => rfl
  | 1, _ => rfl
  | 2, _ => rfl
  | 3, _ => rfl
  | 4, _ => rfl
  | 5, _ => rfl
/-- plus, round by round: the digits and the carry. -/
def plusK (a b : Nat → Int) : Nat → (Nat → Int) × Int
  | 0 => (a, 0)
  | k + 1 => (upd (plusK a b k).1 k ((a k + b k + (plusK a b k).2) % 4294967296), (a k + b k + (plusK a b k).2) / 4294967296)
def dig (d : Nat → Int) : Prop := ∀ i, i < 6 → 0 ≤ d i ∧ d i < 4294967296
theorem plusK_far (a b : Nat → Int) (k j : Nat) (h : k ≤ j) : (plusK a b k).1 j = a j := by
  induction k with
  | zero => rfl
  | succ k ih =>
    simp only [plusK, upd]
    rw [if_neg (by omega), ih (by omega)]
theorem plusK_carry (a b : Nat → Int) (ha : dig a) (hb : dig b) (k : Nat) (h : k ≤ 6) : 0 ≤ (plusK a b k).2 ∧ (plusK a b k).2 ≤ 1 := by
  induction k with
  | zero => exact ⟨by simp [plusK], by simp [plusK]⟩
  | succ k ih =>
    have h1 := ha k (by omega)
    have h2 := hb k (by omega)
    have h3 := ih (by omega)
    simp only [plusK]
    omega

theorem heap_old (w : World) (x : Obj) {i : Nat} (o : Obj) (h : w.heap[i]? = some o) : (w.alloc x).heap[i]? = some o := by
  have := blk_lt h
  show (w.heap.push x)[i]? = _
  rw [Array.getElem?_push, if_neg (by omega)]
  exact h
theorem heap_at1 (w : World) (x y : Obj) : ((w.alloc x).alloc y).heap[w.heap.size + 1]? = some y := by
  have h := heap_alloc_new (w.alloc x) y
  rw [World.size_alloc] at h
  exact h
theorem heap_at2 (w : World) (x y z : Obj) : (((w.alloc x).alloc y).alloc z).heap[w.heap.size + 1 + 1]? = some z := by
  have h := heap_alloc_new ((w.alloc x).alloc y) z
  rw [World.size_alloc, World.size_alloc] at h
  exact h
def big0 : Nat → Int := fun _ => 0
theorem big_cell {w : World} {g : Nat} {t : TypeId} {m : Bool} {d : Nat → Int} (h : w.heap[g]? = some (.cells (bigC m d) t (0, 0))) (i : Nat) (hi : i < 6) : w.cell? ⟨g, 1 + i, none⟩ = some (.int .i64 (d i)) := (blk_cell h (1 + i)).trans (bigC_at m d i hi)

set_option maxRecDepth 100000 in
set_option maxHeartbeats 1000000 in
theorem plus_calls (m mb : Bool) (a b : Nat → Int) (ha : dig a) (hb : dig b) (w : World) : Calls Try.prog 113 #[.agg (bigC m a), .agg (bigC mb b)] w fun e w' => e = .returned (.agg (bigC m (plusK a b 6).1)) ∧ Below w.heap.size w w' := by
  have hk0 : (((w.alloc (.cells (bigC m a) 132)).alloc (.cells (bigC mb b) 132)).alloc (.cells (bigC false big0) 132)).heap[w.heap.size]? = some (.cells (bigC m a) 132 (0, 0)) := heap_old _ _ _ (heap_old _ _ _ (heap_alloc_new w _))
  have hk1 : (((w.alloc (.cells (bigC m a) 132)).alloc (.cells (bigC mb b) 132)).alloc (.cells (bigC false big0) 132)).heap[w.heap.size + 1]? = some (.cells (bigC mb b) 132 (0, 0)) := heap_old _ _ _ (heap_at1 w _ _)
  have hk2 : (((w.alloc (.cells (bigC m a) 132)).alloc (.cells (bigC mb b) 132)).alloc (.cells (bigC false big0) 132)).heap[w.heap.size + 1 + 1]? = some (.cells (bigC false big0) 132 (0, 0)) := heap_at2 w _ _ _
  have hbw : Below w.heap.size w (((w.alloc (.cells (bigC m a) 132)).alloc (.cells (bigC mb b) 132)).alloc (.cells (bigC false big0) 132)) := (((Below.refl _ w).alloc (Nat.le_refl _) _).alloc (by simp) _).alloc (by simp; omega) _
  have HK0 := Lib.hid hk0
  have HK1 := Lib.hid hk1
  have HK2 := Lib.hid hk2
  have HBW := Lib.hid hbw
  have HA := Lib.hid ha
  have HB := Lib.hid hb
  clear hk0 hk1 hk2 hbw ha hb
  go_enter Try.func113, Try.ntmps113
  go_wp2_with fail
  go_loopw [5, 6] (fun c i W => ∃ k : Nat, k ≤ 6 ∧ i = .int .i64 k ∧ c = .int .i64 (plusK a b k).2 ∧ W.heap[w.heap.size]? = some (.cells (bigC m (plusK a b k).1) 132 (0, 0)) ∧ W.heap[w.heap.size + 1]? = some (.cells (bigC mb b) 132 (0, 0)) ∧
      W.heap[w.heap.size + 1 + 1]? = some (.cells (bigC false big0) 132 (0, 0)) ∧ Below w.heap.size w W) (fun _ i _ => 6 - (intOf i).toNat)
  case atStart => exact ⟨0, by omega, rfl, rfl, HK0.out, HK1.out, HK2.out, HBW.out⟩
  case round =>
    obtain ⟨k, hk, rfl, rfl, hA, hB, hC, hb⟩ := hrel
    obtain ⟨c, hc⟩ : ∃ c, c = (plusK a b k).2 := ⟨_, rfl⟩
    obtain ⟨d, hd⟩ : ∃ d, d = (plusK a b k).1 := ⟨_, rfl⟩
    have hcr := plusK_carry a b HA.out HB.out k hk
    rw [← hd] at hA
    rw [← hc] at hcr ⊢
    have HcH := Lib.hid hc
    have HdH := Lib.hid hd
    clear hc hd
    by_cases hlt : k < 6
    · have ra := HA.out k hlt
      have rb := HB.out k hlt
      have ca : wr.cell? ⟨w.heap.size, 1 + k, none⟩ = some (Value.int .i64 (a k)) := (big_cell hA k hlt).trans (by rw [HdH.out, plusK_far a b k k (Nat.le_refl _)])
      have cb := big_cell hB k hlt
      have hfz := blk_frozen hA (1 + k)
      have Hst := Lib.hid (fun v => blk_put hA (1 + k) (.int .i64 v) (bigC_set m d k hlt v))
      have HkB := Lib.hid hB
      have HkC := Lib.hid hC
      clear hA hB hC
      go_wp2_with (go_quiet (fail))
      have hb' := hb
      refine ⟨⟨k + 1, by omega, by go_num, ?_, ?_, blk_far (w := wr.drewN nq) HkB.out (by show w.heap.size + 1 ≠ w.heap.size; omega) _, blk_far (w := wr.drewN nq) HkC.out (by show w.heap.size + 1 + 1 ≠ w.heap.size; omega) _, (pw_below_drewN hb _).setCell (Nat.le_refl _) _⟩, by simp [intOf]; omega⟩
      · rw [HcH.out]; rfl
      · refine (Hst.out _).trans ?_
        rw [HcH.out, HdH.out]; rfl
    · obtain rfl : k = 6 := by omega
      have e0 : wr.cell? ⟨w.heap.size, 0, none⟩ = some (.bool m) := blk_cell hA 0
      have e1 : wr.cell? ⟨w.heap.size, 1, none⟩ = some (Value.int .i64 (d 0)) := blk_cell hA 1
      have e2 : wr.cell? ⟨w.heap.size, 2, none⟩ = some (Value.int .i64 (d 1)) := blk_cell hA 2
      have e3 : wr.cell? ⟨w.heap.size, 3, none⟩ = some (Value.int .i64 (d 2)) := blk_cell hA 3
      have e4 : wr.cell? ⟨w.heap.size, 4, none⟩ = some (Value.int .i64 (d 3)) := blk_cell hA 4
      have e5 : wr.cell? ⟨w.heap.size, 5, none⟩ = some (Value.int .i64 (d 4)) := blk_cell hA 5
      have e6 : wr.cell? ⟨w.heap.size, 6, none⟩ = some (Value.int .i64 (d 5)) := blk_cell hA 6
      have z0 : wr.frozen? ⟨w.heap.size + 1 + 1, 0, none⟩ = false := blk_frozen hC 0
      have z1 : wr.frozen? ⟨w.heap.size + 1 + 1, 1, none⟩ = false := blk_frozen hC 1
      have z2 : wr.frozen? ⟨w.heap.size + 1 + 1, 2, none⟩ = false := blk_frozen hC 2
      have z3 : wr.frozen? ⟨w.heap.size + 1 + 1, 3, none⟩ = false := blk_frozen hC 3
      have z4 : wr.frozen? ⟨w.heap.size + 1 + 1, 4, none⟩ = false := blk_frozen hC 4
      have z5 : wr.frozen? ⟨w.heap.size + 1 + 1, 5, none⟩ = false := blk_frozen hC 5
      have z6 : wr.frozen? ⟨w.heap.size + 1 + 1, 6, none⟩ = false := blk_frozen hC 6
      have y0 : wr.cell? ⟨w.heap.size + 1 + 1, 0, none⟩ = some (Value.bool false) := blk_cell hC 0
      have y1 : wr.cell? ⟨w.heap.size + 1 + 1, 1, none⟩ = some (Value.int .i64 0) := blk_cell hC 1
      have y2 : wr.cell? ⟨w.heap.size + 1 + 1, 2, none⟩ = some (Value.int .i64 0) := blk_cell hC 2
      have y3 : wr.cell? ⟨w.heap.size + 1 + 1, 3, none⟩ = some (Value.int .i64 0) := blk_cell hC 3
      have y4 : wr.cell? ⟨w.heap.size + 1 + 1, 4, none⟩ = some (Value.int .i64 0) := blk_cell hC 4
      have y5 : wr.cell? ⟨w.heap.size + 1 + 1, 5, none⟩ = some (Value.int .i64 0) := blk_cell hC 5
      have y6 : wr.cell? ⟨w.heap.size + 1 + 1, 6, none⟩ = some (Value.int .i64 0) := blk_cell hC 6
      have hltC := blk_lt hC
      clear hA hB hC
      go_wp2_with fail
      refine bodyPost_ret (v := .agg #[.bool m, .int .i64 (d 0), .int .i64 (d 1), .int .i64 (d 2), .int .i64 (d 3), .int .i64 (d 4), .int .i64 (d 5)]) (by simp [results, Try.results113, go_sem, *]) rfl ?_
      have hg : w.heap.size ≤ w.heap.size + 1 + 1 := by omega
      exact ⟨by rw [← HdH.out]; rfl, ((((((hb.setCell hg _).setCell hg _).setCell hg _).setCell hg _).setCell hg _).setCell hg _).setCell hg _⟩
end Go.Proofs.Ytlkdehflipfpbaa.big
namespace Go.Proofs.Ytlkdehflipfpbaa.big
open Go.RowKit Go.Proofs.YtlkdehflipfpbaaW.PrintWords
/-- less, round by round. -/
def lessK (a b : Nat → Int) : Nat → (Nat → Int) × Int
  | 0 => (a, 0)
  | k + 1 => if a k - b k - (lessK a b k).2 < 0 then (upd (lessK a b k).1 k (a k - b k - (lessK a b k).2 + 4294967296), 1) else (upd (lessK a b k).1 k (a k - b k - (lessK a b k).2), 0)
theorem lessK_far (a b : Nat → Int) (k j : Nat) (h : k ≤ j) : (lessK a b k).1 j = a j := by
  induction k with
  | zero => rfl
  | succ k ih =>
    simp only [lessK]
    split
    · show (if j = k then _ else _) = _
      rw [if_neg (by omega), ih (by omega)]
    · show (if j = k then _ else _) = _
      rw [if_neg (by omega), ih (by omega)]
theorem lessK_neg (a b : Nat → Int) (k : Nat) (h : a k - b k - (lessK a b k).2 < 0) : lessK a b (k + 1) = (upd (lessK a b k).1 k (a k - b k - (lessK a b k).2 + 4294967296), 1) := if_pos h
theorem lessK_pos (a b : Nat → Int) (k : Nat) (h : ¬ a k - b k - (lessK a b k).2 < 0) : lessK a b (k + 1) = (upd (lessK a b k).1 k (a k - b k - (lessK a b k).2), 0) := if_neg h
theorem lessK_carry (a b : Nat → Int) (k : Nat) : 0 ≤ (lessK a b k).2 ∧ (lessK a b k).2 ≤ 1 := by
  cases k with
  | zero => exact ⟨by simp [lessK], by simp [lessK]⟩
  | succ k =>
    simp only [lessK]
    split
    · exact ⟨by show (0 : Int) ≤ 1; omega, by show (1 : Int) ≤ 1; omega⟩
    · exact ⟨by show (0 : Int) ≤ 0; omega, by show (0 : Int) ≤ 1; omega⟩

set_option maxRecDepth 100000 in
set_option maxHeartbeats 1000000 in
theorem less_calls (m mb : Bool) (a b : Nat → Int) (ha : dig a) (hb : dig b) (w : World) : Calls Try.prog 115 #[.agg (bigC m a), .agg (bigC mb b)] w fun e w' => e = .returned (.agg (bigC m (lessK a b 6).1)) ∧ Below w.heap.size w w' := by
  have hk0 : (((w.alloc (.cells (bigC m a) 132)).alloc (.cells (bigC mb b) 132)).alloc (.cells (bigC false big0) 132)).heap[w.heap.size]? = some (.cells (bigC m a) 132 (0, 0)) := heap_old _ _ _ (heap_old _ _ _ (heap_alloc_new w _))
  have hk1 : (((w.alloc (.cells (bigC m a) 132)).alloc (.cells (bigC mb b) 132)).alloc (.cells (bigC false big0) 132)).heap[w.heap.size + 1]? = some (.cells (bigC mb b) 132 (0, 0)) := heap_old _ _ _ (heap_at1 w _ _)
  have hk2 : (((w.alloc (.cells (bigC m a) 132)).alloc (.cells (bigC mb b) 132)).alloc (.cells (bigC false big0) 132)).heap[w.heap.size + 1 + 1]? = some (.cells (bigC false big0) 132 (0, 0)) := heap_at2 w _ _ _
  have hbw : Below w.heap.size w (((w.alloc (.cells (bigC m a) 132)).alloc (.cells (bigC mb b) 132)).alloc (.cells (bigC false big0) 132)) := (((Below.refl _ w).alloc (Nat.le_refl _) _).alloc (by simp) _).alloc (by simp; omega) _
  have HK0 := Lib.hid hk0
  have HK1 := Lib.hid hk1
  have HK2 := Lib.hid hk2
  have HBW := Lib.hid hbw
  have HA := Lib.hid ha
  have HB := Lib.hid hb
  clear hk0 hk1 hk2 hbw ha hb
  go_enter Try.func115, Try.ntmps115
  go_wp2_with fail
  go_loopw [5, 6] (fun c i W => ∃ k : Nat, k ≤ 6 ∧ i = .int .i64 k ∧ c = .int .i64 (lessK a b k).2 ∧ W.heap[w.heap.size]? = some (.cells (bigC m (lessK a b k).1) 132 (0, 0)) ∧ W.heap[w.heap.size + 1]? = some (.cells (bigC mb b) 132 (0, 0)) ∧
      W.heap[w.heap.size + 1 + 1]? = some (.cells (bigC false big0) 132 (0, 0)) ∧ Below w.heap.size w W) (fun _ i _ => 6 - (intOf i).toNat)
  case atStart => exact ⟨0, by omega, rfl, rfl, HK0.out, HK1.out, HK2.out, HBW.out⟩
  case round =>
    obtain ⟨k, hk, rfl, rfl, hA, hB, hC, hb⟩ := hrel
    obtain ⟨c, hc⟩ : ∃ c, c = (lessK a b k).2 := ⟨_, rfl⟩
    obtain ⟨d, hd⟩ : ∃ d, d = (lessK a b k).1 := ⟨_, rfl⟩
    have hcr := lessK_carry a b k
    rw [← hd] at hA
    rw [← hc] at hcr ⊢
    have HcH := Lib.hid hc
    have HdH := Lib.hid hd
    clear hc hd
    by_cases hlt : k < 6
    · have ra := HA.out k hlt
      have rb := HB.out k hlt
      have ca : wr.cell? ⟨w.heap.size, 1 + k, none⟩ = some (Value.int .i64 (a k)) := (big_cell hA k hlt).trans (by rw [HdH.out, lessK_far a b k k (Nat.le_refl _)])
      have cb := big_cell hB k hlt
      have hfz := blk_frozen hA (1 + k)
      have Hst := Lib.hid (fun v => blk_put hA (1 + k) (.int .i64 v) (bigC_set m d k hlt v))
      have HkB := Lib.hid hB
      have HkC := Lib.hid hC
      clear hA hB hC
      by_cases hv : a k - b k - c < 0
      · have HE := Lib.hid (lessK_neg a b k (by rwa [← HcH.out]))
        go_wp2_with (go_quiet (fail))
        refine ⟨⟨k + 1, by omega, by go_num, ?_, ?_, blk_far (w := wr.drewN nq) HkB.out (by show w.heap.size + 1 ≠ w.heap.size; omega) _, blk_far (w := wr.drewN nq) HkC.out (by show w.heap.size + 1 + 1 ≠ w.heap.size; omega) _, (pw_below_drewN hb _).setCell (Nat.le_refl _) _⟩, by simp [intOf]; omega⟩
        · rw [HE.out]
        · refine (Hst.out _).trans ?_
          rw [HE.out, HdH.out, HcH.out]
      · have HE := Lib.hid (lessK_pos a b k (by rwa [← HcH.out]))
        go_wp2_with (go_quiet (fail))
        refine ⟨⟨k + 1, by omega, by go_num, ?_, ?_, blk_far (w := wr.drewN nq) HkB.out (by show w.heap.size + 1 ≠ w.heap.size; omega) _, blk_far (w := wr.drewN nq) HkC.out (by show w.heap.size + 1 + 1 ≠ w.heap.size; omega) _, (pw_below_drewN hb _).setCell (Nat.le_refl _) _⟩, by simp [intOf]; omega⟩
        · rw [HE.out]
        · refine (Hst.out _).trans ?_
          rw [HE.out, HdH.out, HcH.out]
    · obtain rfl : k = 6 := by omega
      have e0 : wr.cell? ⟨w.heap.size, 0, none⟩ = some (.bool m) := blk_cell hA 0
      have e1 : wr.cell? ⟨w.heap.size, 1, none⟩ = some (Value.int .i64 (d 0)) := blk_cell hA 1
      have e2 : wr.cell? ⟨w.heap.size, 2, none⟩ = some (Value.int .i64 (d 1)) := blk_cell hA 2
      have e3 : wr.cell? ⟨w.heap.size, 3, none⟩ = some (Value.int .i64 (d 2)) := blk_cell hA 3
      have e4 : wr.cell? ⟨w.heap.size, 4, none⟩ = some (Value.int .i64 (d 3)) := blk_cell hA 4
      have e5 : wr.cell? ⟨w.heap.size, 5, none⟩ = some (Value.int .i64 (d 4)) := blk_cell hA 5
      have e6 : wr.cell? ⟨w.heap.size, 6, none⟩ = some (Value.int .i64 (d 5)) := blk_cell hA 6
      have z0 : wr.frozen? ⟨w.heap.size + 1 + 1, 0, none⟩ = false := blk_frozen hC 0
      have z1 : wr.frozen? ⟨w.heap.size + 1 + 1, 1, none⟩ = false := blk_frozen hC 1
      have z2 : wr.frozen? ⟨w.heap.size + 1 + 1, 2, none⟩ = false := blk_frozen hC 2
      have z3 : wr.frozen? ⟨w.heap.size + 1 + 1, 3, none⟩ = false := blk_frozen hC 3
      have z4 : wr.frozen? ⟨w.heap.size + 1 + 1, 4, none⟩ = false := blk_frozen hC 4
      have z5 : wr.frozen? ⟨w.heap.size + 1 + 1, 5, none⟩ = false := blk_frozen hC 5
      have z6 : wr.frozen? ⟨w.heap.size + 1 + 1, 6, none⟩ = false := blk_frozen hC 6
      have y0 : wr.cell? ⟨w.heap.size + 1 + 1, 0, none⟩ = some (Value.bool false) := blk_cell hC 0
      have y1 : wr.cell? ⟨w.heap.size + 1 + 1, 1, none⟩ = some (Value.int .i64 0) := blk_cell hC 1
      have y2 : wr.cell? ⟨w.heap.size + 1 + 1, 2, none⟩ = some (Value.int .i64 0) := blk_cell hC 2
      have y3 : wr.cell? ⟨w.heap.size + 1 + 1, 3, none⟩ = some (Value.int .i64 0) := blk_cell hC 3
      have y4 : wr.cell? ⟨w.heap.size + 1 + 1, 4, none⟩ = some (Value.int .i64 0) := blk_cell hC 4
      have y5 : wr.cell? ⟨w.heap.size + 1 + 1, 5, none⟩ = some (Value.int .i64 0) := blk_cell hC 5
      have y6 : wr.cell? ⟨w.heap.size + 1 + 1, 6, none⟩ = some (Value.int .i64 0) := blk_cell hC 6
      have hltC := blk_lt hC
      clear hA hB hC
      go_wp2_with fail
      refine bodyPost_ret (v := .agg #[.bool m, .int .i64 (d 0), .int .i64 (d 1), .int .i64 (d 2), .int .i64 (d 3), .int .i64 (d 4), .int .i64 (d 5)]) (by simp [results, Try.results115, go_sem, *]) rfl ?_
      have hg : w.heap.size ≤ w.heap.size + 1 + 1 := by omega
      exact ⟨by rw [← HdH.out]; rfl, ((((((hb.setCell hg _).setCell hg _).setCell hg _).setCell hg _).setCell hg _).setCell hg _).setCell hg _⟩

/-- size: from the k-th digit down. -/
def sizeI (a b : Nat → Int) : Nat → Int
  | 0 => 0
  | k + 1 => if a k < b k then -1 else if a k > b k then 1 else sizeI a b k
set_option maxRecDepth 100000 in
set_option maxHeartbeats 1000000 in
theorem size_calls (m mb : Bool) (a b : Nat → Int) (w : World) : Calls Try.prog 114 #[.agg (bigC m a), .agg (bigC mb b)] w fun e w' => e = .returned (.int .i64 (sizeI a b 6)) ∧ Below w.heap.size w w' := by
  have hk0 : ((w.alloc (.cells (bigC m a) 132)).alloc (.cells (bigC mb b) 132)).heap[w.heap.size]? = some (.cells (bigC m a) 132 (0, 0)) := heap_old _ _ _ (heap_alloc_new w _)
  have hk1 : ((w.alloc (.cells (bigC m a) 132)).alloc (.cells (bigC mb b) 132)).heap[w.heap.size + 1]? = some (.cells (bigC mb b) 132 (0, 0)) := heap_at1 w _ _
  have hbw : Below w.heap.size w ((w.alloc (.cells (bigC m a) 132)).alloc (.cells (bigC mb b) 132)) := ((Below.refl _ w).alloc (Nat.le_refl _) _).alloc (by simp) _
  have HK0 := Lib.hid hk0
  have HK1 := Lib.hid hk1
  have HBW := Lib.hid hbw
  clear hk0 hk1 hbw
  go_enter Try.func114, Try.ntmps114
  go_wp2_with fail
  go_loopw [5] (fun i W => ∃ z : Int, -1 ≤ z ∧ z ≤ 5 ∧ i = .int .i64 z ∧ sizeI a b 6 = sizeI a b (z + 1).toNat ∧ W.heap[w.heap.size]? = some (.cells (bigC m a) 132 (0, 0)) ∧ W.heap[w.heap.size + 1]? = some (.cells (bigC mb b) 132 (0, 0)) ∧ Below w.heap.size w W) (fun i _ => (intOf i + 1).toNat)
  case atStart => exact ⟨5, by omega, by omega, rfl, rfl, HK0.out, HK1.out, HBW.out⟩
  case round =>
    obtain ⟨z, h1, h2, rfl, hs, hA, hB, hb⟩ := hrel
    have HS := Lib.hid hs
    clear hs
    by_cases hlt : 0 ≤ z
    · obtain ⟨k, rfl⟩ := Int.eq_ofNat_of_zero_le hlt
      have hk6 : k < 6 := by omega
      have ca := big_cell hA k hk6
      have cb := big_cell hB k hk6
      have HkA := Lib.hid hA
      have HkB := Lib.hid hB
      clear hA hB
      have HE : Hid (sizeI a b ((k : Int) + 1).toNat = sizeI a b (k + 1)) := Lib.hid (by congr 1)
      rcases Int.lt_trichotomy (a k) (b k) with h | h | h
      · have HF : Hid (sizeI a b (k + 1) = -1) := Lib.hid (by simp only [sizeI]; rw [if_pos h])
        go_wp2_with (go_quiet (fail))
        go_ret
        exact ⟨by rw [HS.out, HE.out, HF.out]; rfl, pw_below_drewN hb _⟩
      · have HF : Hid (sizeI a b (k + 1) = sizeI a b k) := Lib.hid (by simp only [sizeI]; rw [if_neg (by omega), if_neg (by omega)])
        go_wp2_with (go_quiet (fail))
        refine ⟨⟨(k : Int) - 1, by omega, by omega, rfl, ?_, HkA.out, HkB.out, pw_below_drewN hb _⟩, by simp [intOf]⟩
        rw [HS.out, HE.out, HF.out]
        congr 1
        omega
      · have HF : Hid (sizeI a b (k + 1) = 1) := Lib.hid (by simp only [sizeI]; rw [if_neg (by omega), if_pos h])
        go_wp2_with (go_quiet (fail))
        go_ret
        exact ⟨by rw [HS.out, HE.out, HF.out]; rfl, pw_below_drewN (pw_below_drewN hb _) _⟩
    · obtain rfl : z = -1 := by omega
      have HkA := Lib.hid hA
      have HkB := Lib.hid hB
      clear hA hB
      go_wp2_with fail
      go_ret
      exact ⟨by rw [HS.out]; rfl, hb⟩

section
variable {P : Program} {w : World}
theorem eqi_end (d : Nat) (e : TypeId) (c : Nat) (xs ys : Array Value) : (Op.eqItems d e c xs ys []).run P w = .ok true w := by simp [Op.eqItems]
theorem eqi_cons {d : Nat} {e : TypeId} {c : Nat} {xs ys : Array Value} {i : Nat} {is : List Nat} {a b : Value} {r rs : Bool} (ha : (part e xs (i * c)).run P w = .ok a w) (hb : (part e ys (i * c)).run P w = .ok b w)
    (he : (Op.equalIn d e a b).run P w = .ok r w) (ht : (Op.eqItems d e c xs ys is).run P w = .ok rs w) : (Op.eqItems d e c xs ys (i :: is)).run P w = .ok (r && rs) w := by
  simp only [Op.eqItems, Sem.run_bind, ha, hb, he, Result.andThen_ok]
  cases r
  · simp
  · simpa using ht
end
theorem eq6 (w : World) (d : Nat) (x0 x1 x2 x3 x4 x5 y0 y1 y2 y3 y4 y5 : Int) :
    (Op.equalIn (d + 2) 130 (.agg #[.int .i64 x0, .int .i64 x1, .int .i64 x2, .int .i64 x3, .int .i64 x4, .int .i64 x5]) (.agg #[.int .i64 y0, .int .i64 y1, .int .i64 y2, .int .i64 y3, .int .i64 y4, .int .i64 y5])).run Try.prog w =
      .ok (x0 == y0 && (x1 == y1 && (x2 == y2 && (x3 == y3 && (x4 == y4 && (x5 == y5 && true)))))) w := by
  obtain ⟨i, hi⟩ := info_of_underlying Try.underlying3
  have hc : Try.prog.cellsOf 3 = 1 := by kernel_rfl
  rw [run_equalIn_array w (d + 1) (n := 6) _ _ Try.underlying130 hi, hc]
  refine eqi_cons (by go_simp; rfl) (by go_simp; rfl) (by go_simp) ?_
  refine eqi_cons (by go_simp; rfl) (by go_simp; rfl) (by go_simp) ?_
  refine eqi_cons (by go_simp; rfl) (by go_simp; rfl) (by go_simp) ?_
  refine eqi_cons (by go_simp; rfl) (by go_simp; rfl) (by go_simp) ?_
  refine eqi_cons (by go_simp; rfl) (by go_simp; rfl) (by go_simp) ?_
  exact eqi_cons (by go_simp; rfl) (by go_simp; rfl) (by go_simp) (eqi_end ..)
/-- All six digits are nought. -/
def zeroD (d : Nat → Int) : Bool := d 0 == 0 && (d 1 == 0 && (d 2 == 0 && (d 3 == 0 && (d 4 == 0 && (d 5 == 0 && true)))))
set_option maxRecDepth 100000 in
set_option maxHeartbeats 1000000 in
theorem zero_calls (m : Bool) (d : Nat → Int) (w : World) : Calls Try.prog 116 #[.agg (bigC m d)] w fun e w' => e = .returned (.bool (zeroD d)) ∧ Below w.heap.size w w' := by
  have hk0 : (w.alloc (.cells (bigC m d) 132)).heap[w.heap.size]? = some (.cells (bigC m d) 132 (0, 0)) := heap_alloc_new w _
  have hbw : Below w.heap.size w (w.alloc (.cells (bigC m d) 132)) := (Below.refl _ w).alloc (Nat.le_refl _) _
  have e1 : (w.alloc (.cells (bigC m d) 132)).cell? ⟨w.heap.size, 1, none⟩ = some (Value.int .i64 (d 0)) := blk_cell hk0 1
  have e2 : (w.alloc (.cells (bigC m d) 132)).cell? ⟨w.heap.size, 2, none⟩ = some (Value.int .i64 (d 1)) := blk_cell hk0 2
  have e3 : (w.alloc (.cells (bigC m d) 132)).cell? ⟨w.heap.size, 3, none⟩ = some (Value.int .i64 (d 2)) := blk_cell hk0 3
  have e4 : (w.alloc (.cells (bigC m d) 132)).cell? ⟨w.heap.size, 4, none⟩ = some (Value.int .i64 (d 3)) := blk_cell hk0 4
  have e5 : (w.alloc (.cells (bigC m d) 132)).cell? ⟨w.heap.size, 5, none⟩ = some (Value.int .i64 (d 4)) := blk_cell hk0 5
  have e6 : (w.alloc (.cells (bigC m d) 132)).cell? ⟨w.heap.size, 6, none⟩ = some (Value.int .i64 (d 5)) := blk_cell hk0 6
  go_enter Try.func116, Try.ntmps116
  have h6 : ∀ W : World, (Op.equalIn 10000 130 (.agg #[.int .i64 (d 0), .int .i64 (d 1), .int .i64 (d 2), .int .i64 (d 3), .int .i64 (d 4), .int .i64 (d 5)]) (.agg #[.int .i64 0, .int .i64 0, .int .i64 0, .int .i64 0, .int .i64 0, .int .i64 0])).run Try.prog W = .ok (zeroD d) W := fun W => eq6 W 9998 _ _ _ _ _ _ _ _ _ _ _ _
  go_wp2_with fail
  go_ret
  exact ⟨rfl, hbw⟩
/-- addOne: n digits on, from the k-th. -/
def addI : Nat → Nat → (Nat → Int) → (Nat → Int)
  | 0, _, d => d
  | n + 1, k, d => if d k + 1 < 4294967296 then upd d k (d k + 1) else addI n (k + 1) (upd d k 0)
end Go.Proofs.Ytlkdehflipfpbaa.big
namespace Go.Proofs.Ytlkdehflipfpbaa.big
open Go.RowKit Go.Proofs.YtlkdehflipfpbaaW.PrintWords
/-- What six digits are worth. -/
def val (d : Nat → Int) : Int := d 0 + 4294967296 * d 1 + 18446744073709551616 * d 2 + 79228162514264337593543950336 * d 3 + 340282366920938463463374607431768211456 * d 4 + 1461501637330902918203684832716283019655932542976 * d 5
/-- The digits of a number. -/
def dgs (v : Int) : Nat → Int
  | 0 => v % 4294967296
  | 1 => v / 4294967296 % 4294967296
  | 2 => v / 18446744073709551616 % 4294967296
  | 3 => v / 79228162514264337593543950336 % 4294967296
  | 4 => v / 340282366920938463463374607431768211456 % 4294967296
  | 5 => v / 1461501637330902918203684832716283019655932542976 % 4294967296
  | _ => 0
theorem dgs_dig (v : Int) : dig (dgs v) := by
  intro i hi
  match i, hi with
  | 0, _ => simp only [dgs]; omega
  | 1, _ => simp only [dgs]; omega
  | 2, _ => simp only [dgs]; omega
  | 3, _ => simp only [dgs]; omega
  | 4, _ => simp only [dgs]; omega
  | 5, _ => simp only [dgs]; omega
theorem val_dgs (v : Int) (h : 0 ≤ v ∧ v < 6277101735386680763835789423207666416102355444464034512896) : val (dgs v) = v := by
  simp only [val, dgs]
  omega
theorem bigC_congr (m : Bool) (d e : Nat → Int) (h : ∀ i, i < 6 → d i = e i) : bigC m d = bigC m e := by
  unfold bigC
  rw [h 0 (by omega), h 1 (by omega), h 2 (by omega), h 3 (by omega), h 4 (by omega), h 5 (by omega)]
theorem dgs_val (d : Nat → Int) (hd : dig d) (i : Nat) (hi : i < 6) : d i = dgs (val d) i := by
  have h0 := hd 0 (by omega)
  have h1 := hd 1 (by omega)
  have h2 := hd 2 (by omega)
  have h3 := hd 3 (by omega)
  have h4 := hd 4 (by omega)
  have h5 := hd 5 (by omega)
  match i, hi with
  | 0, _ => simp only [dgs, val]; omega
  | 1, _ => simp only [dgs, val]; omega
  | 2, _ => simp only [dgs, val]; omega
  | 3, _ => simp only [dgs, val]; omega
  | 4, _ => simp only [dgs, val]; omega
  | 5, _ => simp only [dgs, val]; omega
theorem bigC_val (m : Bool) (d : Nat → Int) (hd : dig d) (v : Int) (hv : val d = v) : bigC m d = bigC m (dgs v) := by
  rw [← hv]
  exact bigC_congr m _ _ fun i hi => dgs_val d hd i hi
theorem plusK_dig (a b : Nat → Int) (k j : Nat) (h : j < k) : (plusK a b k).1 j = (a j + b j + (plusK a b j).2) % 4294967296 := by
  induction k with
  | zero => omega
  | succ k ih =>
    simp only [plusK, upd]
    by_cases e : j = k
    · rw [if_pos e, e]
    · rw [if_neg e, ih (by omega)]
theorem plusK_next (a b : Nat → Int) (k : Nat) : (plusK a b (k + 1)).2 = (a k + b k + (plusK a b k).2) / 4294967296 := rfl
theorem plus_val (a b : Nat → Int) (ha : dig a) (hb : dig b) (h : val a + val b < 6277101735386680763835789423207666416102355444464034512896) : dig (plusK a b 6).1 ∧ val (plusK a b 6).1 = val a + val b := by
  refine ⟨fun i hi => by rw [plusK_dig a b 6 i hi]; omega, ?_⟩
  have c0 : (plusK a b 0).2 = 0 := rfl
  have c1 := plusK_next a b 0
  have c2 := plusK_next a b 1
  have c3 := plusK_next a b 2
  have c4 := plusK_next a b 3
  have c5 := plusK_next a b 4
  have c6 := plusK_next a b 5
  have d0 := plusK_dig a b 6 0 (by omega)
  have a0 := ha 0 (by omega)
  have b0 := hb 0 (by omega)
  have d1 := plusK_dig a b 6 1 (by omega)
  have a1 := ha 1 (by omega)
  have b1 := hb 1 (by omega)
  have d2 := plusK_dig a b 6 2 (by omega)
  have a2 := ha 2 (by omega)
  have b2 := hb 2 (by omega)
  have d3 := plusK_dig a b 6 3 (by omega)
  have a3 := ha 3 (by omega)
  have b3 := hb 3 (by omega)
  have d4 := plusK_dig a b 6 4 (by omega)
  have a4 := ha 4 (by omega)
  have b4 := hb 4 (by omega)
  have d5 := plusK_dig a b 6 5 (by omega)
  have a5 := ha 5 (by omega)
  have b5 := hb 5 (by omega)
  simp only [val] at h ⊢
  simp only [Nat.reduceAdd] at c1 c2 c3 c4 c5 c6
  generalize (plusK a b 6).1 = D at d0 d1 d2 d3 d4 d5 ⊢
  generalize (plusK a b 6).2 = C6 at c6
  generalize (plusK a b 5).2 = C5 at *
  generalize (plusK a b 4).2 = C4 at *
  generalize (plusK a b 3).2 = C3 at *
  generalize (plusK a b 2).2 = C2 at *
  generalize (plusK a b 1).2 = C1 at *
  generalize (plusK a b 0).2 = C0 at *
  generalize D 0 = D0 at *
  generalize D 1 = D1 at *
  generalize D 2 = D2 at *
  generalize D 3 = D3 at *
  generalize D 4 = D4 at *
  generalize D 5 = D5 at *
  generalize a 0 = A0 at *
  generalize b 0 = B0 at *
  generalize a 1 = A1 at *
  generalize b 1 = B1 at *
  generalize a 2 = A2 at *
  generalize b 2 = B2 at *
  generalize a 3 = A3 at *
  generalize b 3 = B3 at *
  generalize a 4 = A4 at *
  generalize b 4 = B4 at *
  generalize a 5 = A5 at *
  generalize b 5 = B5 at *
  omega
theorem lessK_dig (a b : Nat → Int) (k j : Nat) (h : j < k) : (lessK a b k).1 j = if a j - b j - (lessK a b j).2 < 0 then a j - b j - (lessK a b j).2 + 4294967296 else a j - b j - (lessK a b j).2 := by
  induction k with
  | zero => omega
  | succ k ih =>
    by_cases hv : a k - b k - (lessK a b k).2 < 0
    · rw [lessK_neg a b k hv]
      show upd _ _ _ _ = _
      unfold upd
      by_cases e : j = k
      · rw [if_pos e, e, if_pos hv]
      · rw [if_neg e, ih (by omega)]
    · rw [lessK_pos a b k hv]
      show upd _ _ _ _ = _
      unfold upd
      by_cases e : j = k
      · rw [if_pos e, e, if_neg hv]
      · rw [if_neg e, ih (by omega)]
theorem lessK_next (a b : Nat → Int) (k : Nat) : (lessK a b (k + 1)).2 = if a k - b k - (lessK a b k).2 < 0 then 1 else 0 := by
  by_cases hv : a k - b k - (lessK a b k).2 < 0
  · rw [lessK_neg a b k hv, if_pos hv]
  · rw [lessK_pos a b k hv, if_neg hv]
theorem less_val (a b : Nat → Int) (ha : dig a) (hb : dig b) (h : val b ≤ val a) : dig (lessK a b 6).1 ∧ val (lessK a b 6).1 = val a - val b := by
  have c0 : (lessK a b 0).2 = 0 := rfl
  have c1 := lessK_next a b 0
  have c2 := lessK_next a b 1
  have c3 := lessK_next a b 2
  have c4 := lessK_next a b 3
  have c5 := lessK_next a b 4
  have c6 := lessK_next a b 5
  have d0 := lessK_dig a b 6 0 (by omega)
  have a0 := ha 0 (by omega)
  have b0 := hb 0 (by omega)
  have d1 := lessK_dig a b 6 1 (by omega)
  have a1 := ha 1 (by omega)
  have b1 := hb 1 (by omega)
  have d2 := lessK_dig a b 6 2 (by omega)
  have a2 := ha 2 (by omega)
  have b2 := hb 2 (by omega)
  have d3 := lessK_dig a b 6 3 (by omega)
  have a3 := ha 3 (by omega)
  have b3 := hb 3 (by omega)
  have d4 := lessK_dig a b 6 4 (by omega)
  have a4 := ha 4 (by omega)
  have b4 := hb 4 (by omega)
  have d5 := lessK_dig a b 6 5 (by omega)
  have a5 := ha 5 (by omega)
  have b5 := hb 5 (by omega)
  simp only [val] at h ⊢
  simp only [Nat.reduceAdd] at c1 c2 c3 c4 c5 c6
  unfold dig
  generalize (lessK a b 6).1 = D at d0 d1 d2 d3 d4 d5 ⊢
  generalize (lessK a b 6).2 = C6 at c6
  generalize (lessK a b 5).2 = C5 at *
  generalize (lessK a b 4).2 = C4 at *
  generalize (lessK a b 3).2 = C3 at *
  generalize (lessK a b 2).2 = C2 at *
  generalize (lessK a b 1).2 = C1 at *
  generalize (lessK a b 0).2 = C0 at *
  have HH : ((0 ≤ D 0 ∧ D 0 < 4294967296) ∧ (0 ≤ D 1 ∧ D 1 < 4294967296) ∧ (0 ≤ D 2 ∧ D 2 < 4294967296) ∧ (0 ≤ D 3 ∧ D 3 < 4294967296) ∧ (0 ≤ D 4 ∧ D 4 < 4294967296) ∧ (0 ≤ D 5 ∧ D 5 < 4294967296)) := by
    subst c0
    refine ⟨?_, ?_, ?_, ?_, ?_, ?_⟩
    · rw [d0]; split <;> omega
    · rw [d1]; rw [c1]; split <;> split <;> omega
    · have : 0 ≤ C2 ∧ C2 ≤ 1 := by rw [c2]; split <;> omega
      rw [d2]; split <;> omega
    · have : 0 ≤ C3 ∧ C3 ≤ 1 := by rw [c3]; split <;> omega
      rw [d3]; split <;> omega
    · have : 0 ≤ C4 ∧ C4 ≤ 1 := by rw [c4]; split <;> omega
      rw [d4]; split <;> omega
    · have : 0 ≤ C5 ∧ C5 ≤ 1 := by rw [c5]; split <;> omega
      rw [d5]; split <;> omega
  refine ⟨fun i hi => ?_, ?_⟩
  · match i, hi with
    | 0, _ => exact HH.1
    | 1, _ => exact HH.2.1
    | 2, _ => exact HH.2.2.1
    | 3, _ => exact HH.2.2.2.1
    | 4, _ => exact HH.2.2.2.2.1
    | 5, _ => exact HH.2.2.2.2.2
  have e0 : D 0 = a 0 - b 0 - C0 + 4294967296 * C1 ∧ 0 ≤ C1 ∧ C1 ≤ 1 := by rw [d0, c1]; split <;> exact ⟨by omega, by omega, by omega⟩
  have e1 : D 1 = a 1 - b 1 - C1 + 4294967296 * C2 ∧ 0 ≤ C2 ∧ C2 ≤ 1 := by rw [d1, c2]; split <;> exact ⟨by omega, by omega, by omega⟩
  have e2 : D 2 = a 2 - b 2 - C2 + 4294967296 * C3 ∧ 0 ≤ C3 ∧ C3 ≤ 1 := by rw [d2, c3]; split <;> exact ⟨by omega, by omega, by omega⟩
  have e3 : D 3 = a 3 - b 3 - C3 + 4294967296 * C4 ∧ 0 ≤ C4 ∧ C4 ≤ 1 := by rw [d3, c4]; split <;> exact ⟨by omega, by omega, by omega⟩
  have e4 : D 4 = a 4 - b 4 - C4 + 4294967296 * C5 ∧ 0 ≤ C5 ∧ C5 ≤ 1 := by rw [d4, c5]; split <;> exact ⟨by omega, by omega, by omega⟩
  have e5 : D 5 = a 5 - b 5 - C5 + 4294967296 * C6 ∧ 0 ≤ C6 ∧ C6 ≤ 1 := by rw [d5, c6]; split <;> exact ⟨by omega, by omega, by omega⟩
  clear d0 d1 d2 d3 d4 d5 c1 c2 c3 c4 c5 c6
  obtain ⟨⟨_, _⟩, ⟨_, _⟩, ⟨_, _⟩, ⟨_, _⟩, ⟨_, _⟩, _, _⟩ := HH
  generalize D 0 = D0 at *
  generalize D 1 = D1 at *
  generalize D 2 = D2 at *
  generalize D 3 = D3 at *
  generalize D 4 = D4 at *
  generalize D 5 = D5 at *
  generalize a 0 = A0 at *
  generalize b 0 = B0 at *
  generalize a 1 = A1 at *
  generalize b 1 = B1 at *
  generalize a 2 = A2 at *
  generalize b 2 = B2 at *
  generalize a 3 = A3 at *
  generalize b 3 = B3 at *
  generalize a 4 = A4 at *
  generalize b 4 = B4 at *
  generalize a 5 = A5 at *
  generalize b 5 = B5 at *
  omega
theorem size_val (a b : Nat → Int) (ha : dig a) (hb : dig b) : sizeI a b 6 = if val a < val b then -1 else if val a > val b then 1 else 0 := by
  have a0 := ha 0 (by omega)
  have b0 := hb 0 (by omega)
  have a1 := ha 1 (by omega)
  have b1 := hb 1 (by omega)
  have a2 := ha 2 (by omega)
  have b2 := hb 2 (by omega)
  have a3 := ha 3 (by omega)
  have b3 := hb 3 (by omega)
  have a4 := ha 4 (by omega)
  have b4 := hb 4 (by omega)
  have a5 := ha 5 (by omega)
  have b5 := hb 5 (by omega)
  have key : (sizeI a b 6 = -1 ∧ val a < val b) ∨ (sizeI a b 6 = 1 ∧ val a > val b) ∨ (sizeI a b 6 = 0 ∧ val a = val b) := by
    simp only [val, sizeI]
    clear ha hb
    rcases Int.lt_trichotomy (a 5) (b 5) with h5 | h5 | h5
    · exact .inl ⟨by rw [if_pos h5], by omega⟩
    rotate_left
    · exact .inr (.inl ⟨by rw [if_neg (by omega), if_pos h5], by omega⟩)
    rw [if_neg (by omega), if_neg (by omega)]
    rcases Int.lt_trichotomy (a 4) (b 4) with h4 | h4 | h4
    · exact .inl ⟨by rw [if_pos h4], by omega⟩
    rotate_left
    · exact .inr (.inl ⟨by rw [if_neg (by omega), if_pos h4], by omega⟩)
    rw [if_neg (by omega), if_neg (by omega)]
    rcases Int.lt_trichotomy (a 3) (b 3) with h3 | h3 | h3
    · exact .inl ⟨by rw [if_pos h3], by omega⟩
    rotate_left
    · exact .inr (.inl ⟨by rw [if_neg (by omega), if_pos h3], by omega⟩)
    rw [if_neg (by omega), if_neg (by omega)]
    rcases Int.lt_trichotomy (a 2) (b 2) with h2 | h2 | h2
    · exact .inl ⟨by rw [if_pos h2], by omega⟩
    rotate_left
    · exact .inr (.inl ⟨by rw [if_neg (by omega), if_pos h2], by omega⟩)
    rw [if_neg (by omega), if_neg (by omega)]
    rcases Int.lt_trichotomy (a 1) (b 1) with h1 | h1 | h1
    · exact .inl ⟨by rw [if_pos h1], by omega⟩
    rotate_left
    · exact .inr (.inl ⟨by rw [if_neg (by omega), if_pos h1], by omega⟩)
    rw [if_neg (by omega), if_neg (by omega)]
    rcases Int.lt_trichotomy (a 0) (b 0) with h0 | h0 | h0
    · exact .inl ⟨by rw [if_pos h0], by omega⟩
    rotate_left
    · exact .inr (.inl ⟨by rw [if_neg (by omega), if_pos h0], by omega⟩)
    rw [if_neg (by omega), if_neg (by omega)]
    exact .inr (.inr ⟨rfl, by omega⟩)
  rcases key with ⟨h, h'⟩ | ⟨h, h'⟩ | ⟨h, h'⟩
  · rw [h, if_pos h']
  · rw [h, if_neg (by omega), if_pos h']
  · rw [h, if_neg (by omega), if_neg (by omega)]
theorem zero_val (v : Int) (h : 0 ≤ v ∧ v < 6277101735386680763835789423207666416102355444464034512896) : zeroD (dgs v) = decide (v = 0) := by
  have hv := val_dgs v h
  simp only [val] at hv
  have hd := dgs_dig v
  have d0 := hd 0 (by omega)
  have d1 := hd 1 (by omega)
  have d2 := hd 2 (by omega)
  have d3 := hd 3 (by omega)
  have d4 := hd 4 (by omega)
  have d5 := hd 5 (by omega)
  unfold zeroD
  generalize dgs v = D at *
  by_cases h0 : v = 0
  · subst h0
    rw [show D 0 = 0 by omega, show D 1 = 0 by omega, show D 2 = 0 by omega, show D 3 = 0 by omega, show D 4 = 0 by omega, show D 5 = 0 by omega]
    rfl
  · rw [decide_eq_false h0]
    apply Bool.eq_false_iff.2
    intro hh
    simp only [Bool.and_eq_true, beq_iff_eq] at hh
    omega
/-- addOne, at any place. -/
theorem addI_far (n : Nat) : ∀ (k : Nat) (d : Nat → Int) (j : Nat), j < k → addI n k d j = d j := by
  induction n with
  | zero => intro k d j _; rfl
  | succ n ih =>
    intro k d j h
    simp only [addI]
    split
    · simp only [upd]; rw [if_neg (by omega)]
    · rw [ih _ _ _ (by omega)]; simp only [upd]; rw [if_neg (by omega)]
theorem addI_val (d : Nat → Int) (hd : dig d) (h : val d + 1 < 6277101735386680763835789423207666416102355444464034512896) : dig (addI 6 0 d) ∧ val (addI 6 0 d) = val d + 1 := by
  have d0 := hd 0 (by omega)
  have d1 := hd 1 (by omega)
  have d2 := hd 2 (by omega)
  have d3 := hd 3 (by omega)
  have d4 := hd 4 (by omega)
  have d5 := hd 5 (by omega)
  have H : (∀ i, i < 6 → 0 ≤ addI 6 0 d i ∧ addI 6 0 d i < 4294967296) ∧ val (addI 6 0 d) = val d + 1 := by
    simp only [val] at h ⊢
    simp only [addI]
    repeat' split
    all_goals
      simp only [upd, Nat.reduceAdd, Nat.reduceEqDiff, if_true, if_false] at *
      refine ⟨fun i hi => ?_, ?_⟩
      · have : i = 0 ∨ i = 1 ∨ i = 2 ∨ i = 3 ∨ i = 4 ∨ i = 5 := by omega
        rcases this with rfl | rfl | rfl | rfl | rfl | rfl <;> simp <;> omega
      · omega
  exact ⟨fun i hi => H.1 i hi, H.2⟩
end Go.Proofs.Ytlkdehflipfpbaa.big
namespace Go.Proofs.Ytlkdehflipfpbaa.big
open Go.RowKit Go.Proofs.YtlkdehflipfpbaaW.PrintWords
theorem upd_upd (d : Nat → Int) (k : Nat) (u v : Int) : upd (upd d k u) k v = upd d k v := by
  funext j
  unfold upd
  split <;> rfl
theorem upd_dig (d : Nat → Int) (k : Nat) (v : Int) (hd : dig d) (hv : 0 ≤ v ∧ v < 4294967296) : dig (upd d k v) := by
  intro i hi
  unfold upd
  split
  · exact hv
  · exact hd i hi
set_option maxRecDepth 100000 in
set_option maxHeartbeats 1000000 in
theorem addOne_walk (m : Bool) (a : Nat → Int) (ha : dig a) (w : World) : Calls Try.prog 117 #[.agg (bigC m a)] w fun e w' => e = .returned (.agg (bigC m (addI 6 0 a))) ∧ Below w.heap.size w w' := by
  have hk0 : ((w.alloc (.cells (bigC m a) 132)).alloc (.cells (bigC false big0) 132)).heap[w.heap.size]? = some (.cells (bigC m a) 132 (0, 0)) := heap_old _ _ _ (heap_alloc_new w _)
  have hk1 : ((w.alloc (.cells (bigC m a) 132)).alloc (.cells (bigC false big0) 132)).heap[w.heap.size + 1]? = some (.cells (bigC false big0) 132 (0, 0)) := heap_at1 w _ _
  have hbw : Below w.heap.size w ((w.alloc (.cells (bigC m a) 132)).alloc (.cells (bigC false big0) 132)) := ((Below.refl _ w).alloc (Nat.le_refl _) _).alloc (by simp) _
  have HK0 := Lib.hid hk0
  have HK1 := Lib.hid hk1
  have HBW := Lib.hid hbw
  have HA := Lib.hid ha
  clear hk0 hk1 hbw ha
  go_enter Try.func117, Try.ntmps117
  go_wp2_with fail
  go_loopw [3] (fun i W => ∃ (k : Nat) (d : Nat → Int), k ≤ 6 ∧ dig d ∧ i = .int .i64 k ∧ addI 6 0 a = addI (6 - k) k d ∧ W.heap[w.heap.size]? = some (.cells (bigC m d) 132 (0, 0)) ∧ W.heap[w.heap.size + 1]? = some (.cells (bigC false big0) 132 (0, 0)) ∧ Below w.heap.size w W) (fun i _ => 6 - (intOf i).toNat)
  case atStart => exact ⟨0, a, by omega, HA.out, rfl, rfl, HK0.out, HK1.out, HBW.out⟩
  case round =>
    obtain ⟨k, d, hk, hd, rfl, hs, hA, hB, hb⟩ := hrel
    have HS := Lib.hid hs
    have HD := Lib.hid hd
    clear hs hd
    have y0 : wr.cell? ⟨w.heap.size + 1, 0, none⟩ = some (Value.bool false) := blk_cell hB 0
    have y1 : wr.cell? ⟨w.heap.size + 1, 1, none⟩ = some (Value.int .i64 0) := blk_cell hB 1
    have y2 : wr.cell? ⟨w.heap.size + 1, 2, none⟩ = some (Value.int .i64 0) := blk_cell hB 2
    have y3 : wr.cell? ⟨w.heap.size + 1, 3, none⟩ = some (Value.int .i64 0) := blk_cell hB 3
    have y4 : wr.cell? ⟨w.heap.size + 1, 4, none⟩ = some (Value.int .i64 0) := blk_cell hB 4
    have y5 : wr.cell? ⟨w.heap.size + 1, 5, none⟩ = some (Value.int .i64 0) := blk_cell hB 5
    have y6 : wr.cell? ⟨w.heap.size + 1, 6, none⟩ = some (Value.int .i64 0) := blk_cell hB 6
    have z0 : wr.frozen? ⟨w.heap.size + 1, 0, none⟩ = false := blk_frozen hB 0
    have z1 : wr.frozen? ⟨w.heap.size + 1, 1, none⟩ = false := blk_frozen hB 1
    have z2 : wr.frozen? ⟨w.heap.size + 1, 2, none⟩ = false := blk_frozen hB 2
    have z3 : wr.frozen? ⟨w.heap.size + 1, 3, none⟩ = false := blk_frozen hB 3
    have z4 : wr.frozen? ⟨w.heap.size + 1, 4, none⟩ = false := blk_frozen hB 4
    have z5 : wr.frozen? ⟨w.heap.size + 1, 5, none⟩ = false := blk_frozen hB 5
    have z6 : wr.frozen? ⟨w.heap.size + 1, 6, none⟩ = false := blk_frozen hB 6
    have hltB := blk_lt hB
    by_cases hlt : k < 6
    · have ca := big_cell hA k hlt
      have rd := HD.out k hlt
      have hfz := blk_frozen hA (1 + k)
      have Hst := Lib.hid (fun v => blk_put hA (1 + k) (.int .i64 v) (bigC_set m d k hlt v))
      have HkB := Lib.hid hB
      have HE : Hid (addI (6 - k) k d = addI ((5 - k) + 1) k d) := Lib.hid (by congr 1; omega)
      clear hA hB
      by_cases hc : d k + 1 < 4294967296
      · have HF : Hid (addI ((5 - k) + 1) k d = upd d k (d k + 1)) := Lib.hid (by simp only [addI]; rw [if_pos hc])
        obtain ⟨d', hd'⟩ : ∃ d', upd d k (d k + 1) = d' := ⟨_, rfl⟩
        have hA' := Hst.out (d k + 1)
        rw [hd'] at hA'
        have e0 : (wr.setCell ⟨w.heap.size, 1 + k, none⟩ (Value.int .i64 (d k + 1))).cell? ⟨w.heap.size, 0, none⟩ = some (.bool m) := blk_cell hA' 0
        have e1 : (wr.setCell ⟨w.heap.size, 1 + k, none⟩ (Value.int .i64 (d k + 1))).cell? ⟨w.heap.size, 1, none⟩ = some (Value.int .i64 (d' 0)) := blk_cell hA' 1
        have e2 : (wr.setCell ⟨w.heap.size, 1 + k, none⟩ (Value.int .i64 (d k + 1))).cell? ⟨w.heap.size, 2, none⟩ = some (Value.int .i64 (d' 1)) := blk_cell hA' 2
        have e3 : (wr.setCell ⟨w.heap.size, 1 + k, none⟩ (Value.int .i64 (d k + 1))).cell? ⟨w.heap.size, 3, none⟩ = some (Value.int .i64 (d' 2)) := blk_cell hA' 3
        have e4 : (wr.setCell ⟨w.heap.size, 1 + k, none⟩ (Value.int .i64 (d k + 1))).cell? ⟨w.heap.size, 4, none⟩ = some (Value.int .i64 (d' 3)) := blk_cell hA' 4
        have e5 : (wr.setCell ⟨w.heap.size, 1 + k, none⟩ (Value.int .i64 (d k + 1))).cell? ⟨w.heap.size, 5, none⟩ = some (Value.int .i64 (d' 4)) := blk_cell hA' 5
        have e6 : (wr.setCell ⟨w.heap.size, 1 + k, none⟩ (Value.int .i64 (d k + 1))).cell? ⟨w.heap.size, 6, none⟩ = some (Value.int .i64 (d' 5)) := blk_cell hA' 6
        have HD' := Lib.hid hd'
        clear hd' hA'
        go_wp2_with fail
        refine bodyPost_ret (v := .agg #[.bool m, .int .i64 (d' 0), .int .i64 (d' 1), .int .i64 (d' 2), .int .i64 (d' 3), .int .i64 (d' 4), .int .i64 (d' 5)]) (by simp [results, Try.results117, go_sem, *]) rfl ?_
        have hg : w.heap.size ≤ w.heap.size + 1 := by omega
        exact ⟨by rw [HS.out, HE.out, HF.out, HD'.out]; rfl, (((((((hb.setCell (Nat.le_refl _) _).setCell hg _).setCell hg _).setCell hg _).setCell hg _).setCell hg _).setCell hg _).setCell hg _⟩
      · have HF : Hid (addI ((5 - k) + 1) k d = addI (5 - k) (k + 1) (upd d k 0)) := Lib.hid (by simp only [addI]; rw [if_neg hc])
        go_wp2_with fail
        refine ⟨⟨k + 1, upd d k 0, by omega, upd_dig d k 0 HD.out (by omega), by go_num, ?_, ?_, blk_far (blk_far HkB.out (by show w.heap.size + 1 ≠ w.heap.size; omega) _) (by show w.heap.size + 1 ≠ w.heap.size; omega) _, (hb.setCell (Nat.le_refl _) _).setCell (Nat.le_refl _) _⟩, by simp [intOf]; omega⟩
        · rw [HS.out, HE.out, HF.out]
          congr 1
          omega
        · refine (blk_put (Hst.out _) (1 + k) (.int .i64 0) (bigC_set m _ k hlt 0)).trans ?_
          rw [upd_upd]
    · obtain rfl : k = 6 := by omega
      have e0 : wr.cell? ⟨w.heap.size, 0, none⟩ = some (.bool m) := blk_cell hA 0
      have e1 : wr.cell? ⟨w.heap.size, 1, none⟩ = some (Value.int .i64 (d 0)) := blk_cell hA 1
      have e2 : wr.cell? ⟨w.heap.size, 2, none⟩ = some (Value.int .i64 (d 1)) := blk_cell hA 2
      have e3 : wr.cell? ⟨w.heap.size, 3, none⟩ = some (Value.int .i64 (d 2)) := blk_cell hA 3
      have e4 : wr.cell? ⟨w.heap.size, 4, none⟩ = some (Value.int .i64 (d 3)) := blk_cell hA 4
      have e5 : wr.cell? ⟨w.heap.size, 5, none⟩ = some (Value.int .i64 (d 4)) := blk_cell hA 5
      have e6 : wr.cell? ⟨w.heap.size, 6, none⟩ = some (Value.int .i64 (d 5)) := blk_cell hA 6
      clear hA hB
      go_wp2_with fail
      refine bodyPost_ret (v := .agg #[.bool m, .int .i64 (d 0), .int .i64 (d 1), .int .i64 (d 2), .int .i64 (d 3), .int .i64 (d 4), .int .i64 (d 5)]) (by simp [results, Try.results117, go_sem, *]) rfl ?_
      have hg : w.heap.size ≤ w.heap.size + 1 := by omega
      exact ⟨by rw [HS.out]; rfl, ((((((hb.setCell hg _).setCell hg _).setCell hg _).setCell hg _).setCell hg _).setCell hg _).setCell hg _⟩

/-! The functions on numbers: 'bigC m (dgs v)' is the number of size v with the sign m. -/
theorem plusV (m mb : Bool) (x y : Int) (hx : 0 ≤ x) (hy : 0 ≤ y) (h : x + y < 6277101735386680763835789423207666416102355444464034512896) (w : World) :
    Calls Try.prog 113 #[.agg (bigC m (dgs x)), .agg (bigC mb (dgs y))] w fun e w' => e = .returned (.agg (bigC m (dgs (x + y)))) ∧ Below w.heap.size w w' := by
  have h1 := plus_val (dgs x) (dgs y) (dgs_dig x) (dgs_dig y) (by rw [val_dgs x (by omega), val_dgs y (by omega)]; exact h)
  rw [val_dgs x (by omega), val_dgs y (by omega)] at h1
  rw [← bigC_val m _ h1.1 _ h1.2]
  exact plus_calls m mb _ _ (dgs_dig x) (dgs_dig y) w
theorem lessV (m mb : Bool) (x y : Int) (hy : 0 ≤ y) (hxy : y ≤ x) (h : x < 6277101735386680763835789423207666416102355444464034512896) (w : World) :
    Calls Try.prog 115 #[.agg (bigC m (dgs x)), .agg (bigC mb (dgs y))] w fun e w' => e = .returned (.agg (bigC m (dgs (x - y)))) ∧ Below w.heap.size w w' := by
  have h1 := less_val (dgs x) (dgs y) (dgs_dig x) (dgs_dig y) (by rw [val_dgs x (by omega), val_dgs y (by omega)]; exact hxy)
  rw [val_dgs x (by omega), val_dgs y (by omega)] at h1
  rw [← bigC_val m _ h1.1 _ h1.2]
  exact less_calls m mb _ _ (dgs_dig x) (dgs_dig y) w
theorem sizeV (m mb : Bool) (x y : Int) (hx : 0 ≤ x ∧ x < 6277101735386680763835789423207666416102355444464034512896) (hy : 0 ≤ y ∧ y < 6277101735386680763835789423207666416102355444464034512896) (w : World) :
    Calls Try.prog 114 #[.agg (bigC m (dgs x)), .agg (bigC mb (dgs y))] w fun e w' => e = .returned (.int .i64 (if x < y then -1 else if x > y then 1 else 0)) ∧ Below w.heap.size w w' := by
  have h1 := size_val (dgs x) (dgs y) (dgs_dig x) (dgs_dig y)
  rw [val_dgs x hx, val_dgs y hy] at h1
  rw [← h1]
  exact size_calls m mb _ _ w
theorem zeroV (m : Bool) (x : Int) (hx : 0 ≤ x ∧ x < 6277101735386680763835789423207666416102355444464034512896) (w : World) :
    Calls Try.prog 116 #[.agg (bigC m (dgs x))] w fun e w' => e = .returned (.bool (decide (x = 0))) ∧ Below w.heap.size w w' := by
  rw [← zero_val x hx]
  exact zero_calls m _ w
theorem addOneV (m : Bool) (x : Int) (hx : 0 ≤ x ∧ x + 1 < 6277101735386680763835789423207666416102355444464034512896) (w : World) :
    Calls Try.prog 117 #[.agg (bigC m (dgs x))] w fun e w' => e = .returned (.agg (bigC m (dgs (x + 1)))) ∧ Below w.heap.size w w' := by
  have h1 := addI_val (dgs x) (dgs_dig x) (by rw [val_dgs x (by omega)]; exact hx.2)
  rw [val_dgs x (by omega)] at h1
  rw [← bigC_val m _ h1.1 _ h1.2]
  exact addOne_walk m _ (dgs_dig x) w

set_option maxRecDepth 100000 in
set_option maxHeartbeats 1000000 in
theorem negV (m : Bool) (x : Int) (hx : 0 ≤ x ∧ x < 6277101735386680763835789423207666416102355444464034512896) (w : World) :
    Calls Try.prog 97 #[.agg (bigC m (dgs x))] w fun e w' => e = .returned (.agg (bigC (if x = 0 then m else !m) (dgs x))) ∧ Below w.heap.size w w' := by
  obtain ⟨m', hm'⟩ : ∃ m', (if x = 0 then m else !m) = m' := ⟨_, rfl⟩
  rw [hm']
  have HM := Lib.hid hm'
  clear hm'
  obtain ⟨d, hd⟩ : ∃ d, dgs x = d := ⟨_, rfl⟩
  have HZ := Lib.hid (fun w => zeroV m x hx w)
  rw [hd] at HZ ⊢
  have hk0 : ((w.alloc (.cells (bigC m d) 132)).alloc (.cells (bigC false big0) 132)).heap[w.heap.size]? = some (.cells (bigC m d) 132 (0, 0)) := heap_old _ _ _ (heap_alloc_new w _)
  have hk1 : ((w.alloc (.cells (bigC m d) 132)).alloc (.cells (bigC false big0) 132)).heap[w.heap.size + 1]? = some (.cells (bigC false big0) 132 (0, 0)) := heap_at1 w _ _
  have hbw : Below w.heap.size w ((w.alloc (.cells (bigC m d) 132)).alloc (.cells (bigC false big0) 132)) := ((Below.refl _ w).alloc (Nat.le_refl _) _).alloc (by simp) _
  have e0 : ((w.alloc (.cells (bigC m d) 132)).alloc (.cells #[.bool false, .int .i64 0, .int .i64 0, .int .i64 0, .int .i64 0, .int .i64 0, .int .i64 0] 132)).cell? ⟨w.heap.size, 0, none⟩ = some (.bool m) := blk_cell hk0 0
  have e1 : ((w.alloc (.cells (bigC m d) 132)).alloc (.cells #[.bool false, .int .i64 0, .int .i64 0, .int .i64 0, .int .i64 0, .int .i64 0, .int .i64 0] 132)).cell? ⟨w.heap.size, 1, none⟩ = some (Value.int .i64 (d 0)) := blk_cell hk0 1
  have e2 : ((w.alloc (.cells (bigC m d) 132)).alloc (.cells #[.bool false, .int .i64 0, .int .i64 0, .int .i64 0, .int .i64 0, .int .i64 0, .int .i64 0] 132)).cell? ⟨w.heap.size, 2, none⟩ = some (Value.int .i64 (d 1)) := blk_cell hk0 2
  have e3 : ((w.alloc (.cells (bigC m d) 132)).alloc (.cells #[.bool false, .int .i64 0, .int .i64 0, .int .i64 0, .int .i64 0, .int .i64 0, .int .i64 0] 132)).cell? ⟨w.heap.size, 3, none⟩ = some (Value.int .i64 (d 2)) := blk_cell hk0 3
  have e4 : ((w.alloc (.cells (bigC m d) 132)).alloc (.cells #[.bool false, .int .i64 0, .int .i64 0, .int .i64 0, .int .i64 0, .int .i64 0, .int .i64 0] 132)).cell? ⟨w.heap.size, 4, none⟩ = some (Value.int .i64 (d 3)) := blk_cell hk0 4
  have e5 : ((w.alloc (.cells (bigC m d) 132)).alloc (.cells #[.bool false, .int .i64 0, .int .i64 0, .int .i64 0, .int .i64 0, .int .i64 0, .int .i64 0] 132)).cell? ⟨w.heap.size, 5, none⟩ = some (Value.int .i64 (d 4)) := blk_cell hk0 5
  have e6 : ((w.alloc (.cells (bigC m d) 132)).alloc (.cells #[.bool false, .int .i64 0, .int .i64 0, .int .i64 0, .int .i64 0, .int .i64 0, .int .i64 0] 132)).cell? ⟨w.heap.size, 6, none⟩ = some (Value.int .i64 (d 5)) := blk_cell hk0 6
  have HK0 := Lib.hid hk0
  have HK1 := Lib.hid hk1
  have HBW := Lib.hid hbw
  clear hk0 hk1 hbw hd
  go_enter Try.func97, Try.ntmps97
  go_wp2_with fail
  refine (HZ.out _).mono ?_
  rintro e w1 ⟨rfl, hb1⟩
  clear e0 e1 e2 e3 e4 e5 e6
  have hbl := below_then HBW.out HBW.out.size hb1
  have hA := (hb1.block w.heap.size (by simp; omega)).trans HK0.out
  have hB := (hb1.block (w.heap.size + 1) (by simp)).trans HK1.out
  have hg : w.heap.size ≤ w.heap.size + 1 := by omega
  have y0 : w1.cell? ⟨w.heap.size + 1, 0, none⟩ = some (Value.bool false) := blk_cell hB 0
  have y1 : w1.cell? ⟨w.heap.size + 1, 1, none⟩ = some (Value.int .i64 0) := blk_cell hB 1
  have y2 : w1.cell? ⟨w.heap.size + 1, 2, none⟩ = some (Value.int .i64 0) := blk_cell hB 2
  have y3 : w1.cell? ⟨w.heap.size + 1, 3, none⟩ = some (Value.int .i64 0) := blk_cell hB 3
  have y4 : w1.cell? ⟨w.heap.size + 1, 4, none⟩ = some (Value.int .i64 0) := blk_cell hB 4
  have y5 : w1.cell? ⟨w.heap.size + 1, 5, none⟩ = some (Value.int .i64 0) := blk_cell hB 5
  have y6 : w1.cell? ⟨w.heap.size + 1, 6, none⟩ = some (Value.int .i64 0) := blk_cell hB 6
  have z0 : w1.frozen? ⟨w.heap.size + 1, 0, none⟩ = false := blk_frozen hB 0
  have z1 : w1.frozen? ⟨w.heap.size + 1, 1, none⟩ = false := blk_frozen hB 1
  have z2 : w1.frozen? ⟨w.heap.size + 1, 2, none⟩ = false := blk_frozen hB 2
  have z3 : w1.frozen? ⟨w.heap.size + 1, 3, none⟩ = false := blk_frozen hB 3
  have z4 : w1.frozen? ⟨w.heap.size + 1, 4, none⟩ = false := blk_frozen hB 4
  have z5 : w1.frozen? ⟨w.heap.size + 1, 5, none⟩ = false := blk_frozen hB 5
  have z6 : w1.frozen? ⟨w.heap.size + 1, 6, none⟩ = false := blk_frozen hB 6
  have q0 : w1.frozen? ⟨w.heap.size, 0, none⟩ = false := blk_frozen hA 0
  have e0 : w1.cell? ⟨w.heap.size, 0, none⟩ = some (.bool m) := blk_cell hA 0
  have e1 : w1.cell? ⟨w.heap.size, 1, none⟩ = some (Value.int .i64 (d 0)) := blk_cell hA 1
  have e2 : w1.cell? ⟨w.heap.size, 2, none⟩ = some (Value.int .i64 (d 1)) := blk_cell hA 2
  have e3 : w1.cell? ⟨w.heap.size, 3, none⟩ = some (Value.int .i64 (d 2)) := blk_cell hA 3
  have e4 : w1.cell? ⟨w.heap.size, 4, none⟩ = some (Value.int .i64 (d 3)) := blk_cell hA 4
  have e5 : w1.cell? ⟨w.heap.size, 5, none⟩ = some (Value.int .i64 (d 4)) := blk_cell hA 5
  have e6 : w1.cell? ⟨w.heap.size, 6, none⟩ = some (Value.int .i64 (d 5)) := blk_cell hA 6
  have hltB := blk_lt hB
  clear hA hB hb1
  by_cases hz : x = 0
  · have hz' : decide (x = 0) = true := decide_eq_true hz
    have Hz := Lib.hid hz
    clear hz
    go_wp2_with fail
    refine bodyPost_ret (v := .agg #[.bool m, .int .i64 (d 0), .int .i64 (d 1), .int .i64 (d 2), .int .i64 (d 3), .int .i64 (d 4), .int .i64 (d 5)]) (by simp [results, Try.results97, go_sem, *]) rfl ?_
    exact ⟨by rw [← HM.out, if_pos Hz.out]; rfl, ((((((hbl.setCell hg _).setCell hg _).setCell hg _).setCell hg _).setCell hg _).setCell hg _).setCell hg _⟩
  · have hz' : decide (x = 0) = false := decide_eq_false hz
    have Hz := Lib.hid hz
    clear hz
    go_wp2_with fail
    refine bodyPost_ret (v := .agg #[.bool (!m), .int .i64 (d 0), .int .i64 (d 1), .int .i64 (d 2), .int .i64 (d 3), .int .i64 (d 4), .int .i64 (d 5)]) (by simp [results, Try.results97, go_sem, *]) rfl ?_
    exact ⟨by rw [← HM.out, if_neg Hz.out]; rfl, (((((((hbl.setCell (Nat.le_refl _) _).setCell hg _).setCell hg _).setCell hg _).setCell hg _).setCell hg _).setCell hg _).setCell hg _⟩
end Go.Proofs.Ytlkdehflipfpbaa.big
namespace Go.Proofs.Ytlkdehflipfpbaa.big
open Go.RowKit Go.Proofs.YtlkdehflipfpbaaW.PrintWords
/-- The size of a number. -/
def mag (n : Int) : Int := if n < 0 then -n else n
/-- The number n. -/
def bigN (n : Int) : Array Value := bigC (decide (n < 0)) (dgs (mag n))
theorem small_digs (m : Bool) (u : Int) (h : 0 ≤ u ∧ u < 18446744073709551616) : (#[.bool m, .int .i64 (u % 4294967296), .int .i64 (u / 4294967296), .int .i64 0, .int .i64 0, .int .i64 0, .int .i64 0] : Array Value) = bigC m (dgs u) := by
  show _ = (#[.bool m, .int .i64 (u % 4294967296), .int .i64 (u / 4294967296 % 4294967296), .int .i64 (u / 18446744073709551616 % 4294967296), .int .i64 (u / 79228162514264337593543950336 % 4294967296), .int .i64 (u / 340282366920938463463374607431768211456 % 4294967296), .int .i64 (u / 1461501637330902918203684832716283019655932542976 % 4294967296)] : Array Value)
  rw [show u / 4294967296 % 4294967296 = u / 4294967296 by omega, show u / 18446744073709551616 % 4294967296 = 0 by omega, show u / 79228162514264337593543950336 % 4294967296 = 0 by omega, show u / 340282366920938463463374607431768211456 % 4294967296 = 0 by omega, show u / 1461501637330902918203684832716283019655932542976 % 4294967296 = 0 by omega]
set_option maxRecDepth 100000 in
set_option maxHeartbeats 1000000 in
theorem ofV (v : Int) (hv : -9223372036854775808 ≤ v ∧ v ≤ 9223372036854775807) (w : World) :
    Calls Try.prog 96 #[.int .i64 v] w fun e w' => e = .returned (.agg (bigN v)) ∧ Below w.heap.size w w' := by
  by_cases hneg : v < 0
  · obtain ⟨u, hu⟩ : ∃ u, -(v + 1) = u := ⟨_, rfl⟩
    have hur : 0 ≤ u ∧ u < 9223372036854775808 := by omega
    obtain ⟨d, hd⟩ : ∃ d, dgs (u + 1) = d := ⟨_, rfl⟩
    have HE : Hid (bigC true d = bigN v) := Lib.hid (by unfold bigN mag; rw [if_pos hneg, decide_eq_true hneg, ← hd, show u + 1 = -v by omega])
    have hq := small_digs true u (by omega)
    have HO := Lib.hid (fun w => addOneV true u (by omega) w)
    rw [← hq, hd] at HO
    clear hq hd
    go_enter Try.func96, Try.ntmps96
    go_wp2_with fail
    refine (HO.out _).mono ?_
    rintro e w1 ⟨he, hb1⟩
    obtain rfl : e = .returned (.agg #[.bool true, .int .i64 (d 0), .int .i64 (d 1), .int .i64 (d 2), .int .i64 (d 3), .int .i64 (d 4), .int .i64 (d 5)]) := he
    have hbl := below_then (((Below.refl _ w).alloc (Nat.le_refl _) (.cells (bigC false big0) 132)).alloc (by simp) (.cells #[.bool true, .int .i64 (u % 4294967296), .int .i64 (u / 4294967296), .int .i64 0, .int .i64 0, .int .i64 0, .int .i64 0] 132)) (by simp; omega) hb1
    have hA := (hb1.block w.heap.size (by simp; omega)).trans (heap_old _ _ _ (heap_alloc_new w (.cells (bigC false big0) 132)))
    have y0 : w1.cell? ⟨w.heap.size, 0, none⟩ = some (Value.bool false) := blk_cell hA 0
    have y1 : w1.cell? ⟨w.heap.size, 1, none⟩ = some (Value.int .i64 0) := blk_cell hA 1
    have y2 : w1.cell? ⟨w.heap.size, 2, none⟩ = some (Value.int .i64 0) := blk_cell hA 2
    have y3 : w1.cell? ⟨w.heap.size, 3, none⟩ = some (Value.int .i64 0) := blk_cell hA 3
    have y4 : w1.cell? ⟨w.heap.size, 4, none⟩ = some (Value.int .i64 0) := blk_cell hA 4
    have y5 : w1.cell? ⟨w.heap.size, 5, none⟩ = some (Value.int .i64 0) := blk_cell hA 5
    have y6 : w1.cell? ⟨w.heap.size, 6, none⟩ = some (Value.int .i64 0) := blk_cell hA 6
    have z0 : w1.frozen? ⟨w.heap.size, 0, none⟩ = false := blk_frozen hA 0
    have z1 : w1.frozen? ⟨w.heap.size, 1, none⟩ = false := blk_frozen hA 1
    have z2 : w1.frozen? ⟨w.heap.size, 2, none⟩ = false := blk_frozen hA 2
    have z3 : w1.frozen? ⟨w.heap.size, 3, none⟩ = false := blk_frozen hA 3
    have z4 : w1.frozen? ⟨w.heap.size, 4, none⟩ = false := blk_frozen hA 4
    have z5 : w1.frozen? ⟨w.heap.size, 5, none⟩ = false := blk_frozen hA 5
    have z6 : w1.frozen? ⟨w.heap.size, 6, none⟩ = false := blk_frozen hA 6
    have hltA := blk_lt hA
    clear hA hb1
    go_wp2_with fail
    refine bodyPost_ret (v := .agg #[.bool true, .int .i64 (d 0), .int .i64 (d 1), .int .i64 (d 2), .int .i64 (d 3), .int .i64 (d 4), .int .i64 (d 5)]) (by simp [results, Try.results96, go_sem, *]) rfl ?_
    have hg := Nat.le_refl w.heap.size
    exact ⟨by rw [← HE.out]; rfl, ((((((hbl.setCell hg _).setCell hg _).setCell hg _).setCell hg _).setCell hg _).setCell hg _).setCell hg _⟩
  · have hv0 : 0 ≤ v := by omega
    have HE : Hid (bigC false (dgs v) = bigN v) := Lib.hid (by unfold bigN mag; rw [if_neg hneg, decide_eq_false hneg])
    have HQ := Lib.hid (small_digs false v (by omega))
    go_enter Try.func96, Try.ntmps96
    go_wp2_with fail
    refine bodyPost_ret (v := .agg #[.bool false, .int .i64 (v % 4294967296), .int .i64 (v / 4294967296), .int .i64 0, .int .i64 0, .int .i64 0, .int .i64 0]) (by simp [results, Try.results96, go_sem, *]) rfl ?_
    exact ⟨by rw [HQ.out, HE.out], ((Below.refl _ w).alloc (Nat.le_refl _) _).alloc (by simp) _⟩

/-! The sum of two numbers with unlike signs. -/
section
variable {x y X Y : Int} {m n : Bool} {d : Nat → Int} (hm : decide (x < 0) = m) (hn : decide (y < 0) = n) (hX : mag x = X) (hY : mag y = Y) (hmn : m ≠ n)
include hm hn hX hY hmn
theorem unlike : (x < 0 ∧ 0 ≤ y ∧ X = -x ∧ Y = y ∧ m = true ∧ n = false) ∨ (0 ≤ x ∧ y < 0 ∧ X = x ∧ Y = -y ∧ m = false ∧ n = true) := by
  unfold mag at hX hY
  by_cases hx : x < 0 <;> by_cases hy : y < 0
  · rw [decide_eq_true hx] at hm; rw [decide_eq_true hy] at hn; exact absurd (hm.symm.trans hn) hmn
  · rw [if_pos hx] at hX; rw [if_neg hy] at hY; rw [decide_eq_true hx] at hm; rw [decide_eq_false hy] at hn
    exact .inl ⟨hx, by omega, hX.symm, hY.symm, hm.symm, hn.symm⟩
  · rw [if_neg hx] at hX; rw [if_pos hy] at hY; rw [decide_eq_false hx] at hm; rw [decide_eq_true hy] at hn
    exact .inr ⟨by omega, hy, hX.symm, hY.symm, hm.symm, hn.symm⟩
  · rw [decide_eq_false hx] at hm; rw [decide_eq_false hy] at hn; exact absurd (hm.symm.trans hn) hmn
theorem add_zero {v : Int} (hXY : X = Y) (hd : dgs v = d) (hv : v = 0) : bigC false d = bigN (x + y) := by
  subst hv
  have h := unlike hm hn hX hY hmn
  have : x + y = 0 := by rcases h with h | h <;> omega
  rw [this, ← hd]
  rfl
theorem add_signn (hXY : X < Y) (hd : dgs (Y - X) = d) : bigC n d = bigN (x + y) := by
  rcases unlike hm hn hX hY hmn with ⟨h1, h2, h3, h4, h5, h6⟩ | ⟨h1, h2, h3, h4, h5, h6⟩
  · unfold bigN mag
    rw [decide_eq_false (by omega), if_neg (by omega), h6, ← hd, show Y - X = x + y by omega]
  · unfold bigN mag
    rw [decide_eq_true (by omega), if_pos (by omega), h6, ← hd, show Y - X = -(x + y) by omega]
theorem add_signm (hXY : Y < X) (hd : dgs (X - Y) = d) : bigC m d = bigN (x + y) := by
  rcases unlike hm hn hX hY hmn with ⟨h1, h2, h3, h4, h5, h6⟩ | ⟨h1, h2, h3, h4, h5, h6⟩
  · unfold bigN mag
    rw [decide_eq_true (by omega), if_pos (by omega), h5, ← hd, show X - Y = -(x + y) by omega]
  · unfold bigN mag
    rw [decide_eq_false (by omega), if_neg (by omega), h5, ← hd, show X - Y = x + y by omega]
end
set_option maxRecDepth 100000 in
set_option maxHeartbeats 2000000 in
theorem addV (x y : Int) (h : mag x + mag y < 6277101735386680763835789423207666416102355444464034512896) (w : World) :
    Calls Try.prog 95 #[.agg (bigN x), .agg (bigN y)] w fun e w' => e = .returned (.agg (bigN (x + y))) ∧ Below w.heap.size w w' := by
  have hx0 : 0 ≤ mag x := by unfold mag; split <;> omega
  have hy0 : 0 ≤ mag y := by unfold mag; split <;> omega
  obtain ⟨m, hm⟩ : ∃ m, decide (x < 0) = m := ⟨_, rfl⟩
  obtain ⟨n, hn⟩ : ∃ n, decide (y < 0) = n := ⟨_, rfl⟩
  obtain ⟨X, hX⟩ : ∃ X, mag x = X := ⟨_, rfl⟩
  obtain ⟨Y, hY⟩ : ∃ Y, mag y = Y := ⟨_, rfl⟩
  obtain ⟨a, ha⟩ : ∃ a, dgs X = a := ⟨_, rfl⟩
  obtain ⟨b, hb⟩ : ∃ b, dgs Y = b := ⟨_, rfl⟩
  rw [show bigN x = bigC m a by unfold bigN; rw [hm, hX, ha], show bigN y = bigC n b by unfold bigN; rw [hn, hY, hb]]
  rw [hX, hY] at h
  rw [hX] at hx0
  rw [hY] at hy0
  have hP : ∀ w, Calls Try.prog 113 #[.agg (bigC m a), .agg (bigC n b)] w fun e w' => e = .returned (.agg (bigC m (dgs (X + Y)))) ∧ Below w.heap.size w w' := by rw [← ha, ← hb]; exact fun w => plusV m n X Y hx0 hy0 h w
  have hS : ∀ w, Calls Try.prog 114 #[.agg (bigC m a), .agg (bigC n b)] w fun e w' => e = .returned (.int .i64 (if X < Y then -1 else if X > Y then 1 else 0)) ∧ Below w.heap.size w w' := by rw [← ha, ← hb]; exact fun w => sizeV m n X Y (by omega) (by omega) w
  have hbw : Below w.heap.size w (((w.alloc (.cells (bigC m a) 132)).alloc (.cells (bigC n b) 132)).alloc (.cells (bigC false big0) 132)) := (((Below.refl _ w).alloc (Nat.le_refl _) _).alloc (by simp) _).alloc (by simp; omega) _
  have hk0 : (((w.alloc (.cells (bigC m a) 132)).alloc (.cells (bigC n b) 132)).alloc (.cells (bigC false big0) 132)).heap[w.heap.size]? = some (.cells (bigC m a) 132 (0, 0)) := heap_old _ _ _ (heap_old _ _ _ (heap_alloc_new w _))
  have hk1 : (((w.alloc (.cells (bigC m a) 132)).alloc (.cells (bigC n b) 132)).alloc (.cells (bigC false big0) 132)).heap[w.heap.size + 1]? = some (.cells (bigC n b) 132 (0, 0)) := heap_old _ _ _ (heap_at1 w _ _)
  have hk2 : (((w.alloc (.cells (bigC m a) 132)).alloc (.cells (bigC n b) 132)).alloc (.cells (bigC false big0) 132)).heap[w.heap.size + 1 + 1]? = some (.cells (bigC false big0) 132 (0, 0)) := heap_at2 w _ _ _
  have e0 : (((w.alloc (.cells (bigC m a) 132)).alloc (.cells (bigC n b) 132)).alloc (.cells #[.bool false, .int .i64 0, .int .i64 0, .int .i64 0, .int .i64 0, .int .i64 0, .int .i64 0] 132)).cell? ⟨w.heap.size, 0, none⟩ = some (Value.bool m) := blk_cell hk0 0
  have e1 : (((w.alloc (.cells (bigC m a) 132)).alloc (.cells (bigC n b) 132)).alloc (.cells #[.bool false, .int .i64 0, .int .i64 0, .int .i64 0, .int .i64 0, .int .i64 0, .int .i64 0] 132)).cell? ⟨w.heap.size, 1, none⟩ = some (Value.int .i64 (a 0)) := blk_cell hk0 1
  have e2 : (((w.alloc (.cells (bigC m a) 132)).alloc (.cells (bigC n b) 132)).alloc (.cells #[.bool false, .int .i64 0, .int .i64 0, .int .i64 0, .int .i64 0, .int .i64 0, .int .i64 0] 132)).cell? ⟨w.heap.size, 2, none⟩ = some (Value.int .i64 (a 1)) := blk_cell hk0 2
  have e3 : (((w.alloc (.cells (bigC m a) 132)).alloc (.cells (bigC n b) 132)).alloc (.cells #[.bool false, .int .i64 0, .int .i64 0, .int .i64 0, .int .i64 0, .int .i64 0, .int .i64 0] 132)).cell? ⟨w.heap.size, 3, none⟩ = some (Value.int .i64 (a 2)) := blk_cell hk0 3
  have e4 : (((w.alloc (.cells (bigC m a) 132)).alloc (.cells (bigC n b) 132)).alloc (.cells #[.bool false, .int .i64 0, .int .i64 0, .int .i64 0, .int .i64 0, .int .i64 0, .int .i64 0] 132)).cell? ⟨w.heap.size, 4, none⟩ = some (Value.int .i64 (a 3)) := blk_cell hk0 4
  have e5 : (((w.alloc (.cells (bigC m a) 132)).alloc (.cells (bigC n b) 132)).alloc (.cells #[.bool false, .int .i64 0, .int .i64 0, .int .i64 0, .int .i64 0, .int .i64 0, .int .i64 0] 132)).cell? ⟨w.heap.size, 5, none⟩ = some (Value.int .i64 (a 4)) := blk_cell hk0 5
  have e6 : (((w.alloc (.cells (bigC m a) 132)).alloc (.cells (bigC n b) 132)).alloc (.cells #[.bool false, .int .i64 0, .int .i64 0, .int .i64 0, .int .i64 0, .int .i64 0, .int .i64 0] 132)).cell? ⟨w.heap.size, 6, none⟩ = some (Value.int .i64 (a 5)) := blk_cell hk0 6
  have f0 : (((w.alloc (.cells (bigC m a) 132)).alloc (.cells (bigC n b) 132)).alloc (.cells #[.bool false, .int .i64 0, .int .i64 0, .int .i64 0, .int .i64 0, .int .i64 0, .int .i64 0] 132)).cell? ⟨w.heap.size + 1, 0, none⟩ = some (Value.bool n) := blk_cell hk1 0
  have f1 : (((w.alloc (.cells (bigC m a) 132)).alloc (.cells (bigC n b) 132)).alloc (.cells #[.bool false, .int .i64 0, .int .i64 0, .int .i64 0, .int .i64 0, .int .i64 0, .int .i64 0] 132)).cell? ⟨w.heap.size + 1, 1, none⟩ = some (Value.int .i64 (b 0)) := blk_cell hk1 1
  have f2 : (((w.alloc (.cells (bigC m a) 132)).alloc (.cells (bigC n b) 132)).alloc (.cells #[.bool false, .int .i64 0, .int .i64 0, .int .i64 0, .int .i64 0, .int .i64 0, .int .i64 0] 132)).cell? ⟨w.heap.size + 1, 2, none⟩ = some (Value.int .i64 (b 1)) := blk_cell hk1 2
  have f3 : (((w.alloc (.cells (bigC m a) 132)).alloc (.cells (bigC n b) 132)).alloc (.cells #[.bool false, .int .i64 0, .int .i64 0, .int .i64 0, .int .i64 0, .int .i64 0, .int .i64 0] 132)).cell? ⟨w.heap.size + 1, 3, none⟩ = some (Value.int .i64 (b 2)) := blk_cell hk1 3
  have f4 : (((w.alloc (.cells (bigC m a) 132)).alloc (.cells (bigC n b) 132)).alloc (.cells #[.bool false, .int .i64 0, .int .i64 0, .int .i64 0, .int .i64 0, .int .i64 0, .int .i64 0] 132)).cell? ⟨w.heap.size + 1, 4, none⟩ = some (Value.int .i64 (b 3)) := blk_cell hk1 4
  have f5 : (((w.alloc (.cells (bigC m a) 132)).alloc (.cells (bigC n b) 132)).alloc (.cells #[.bool false, .int .i64 0, .int .i64 0, .int .i64 0, .int .i64 0, .int .i64 0, .int .i64 0] 132)).cell? ⟨w.heap.size + 1, 5, none⟩ = some (Value.int .i64 (b 4)) := blk_cell hk1 5
  have f6 : (((w.alloc (.cells (bigC m a) 132)).alloc (.cells (bigC n b) 132)).alloc (.cells #[.bool false, .int .i64 0, .int .i64 0, .int .i64 0, .int .i64 0, .int .i64 0, .int .i64 0] 132)).cell? ⟨w.heap.size + 1, 6, none⟩ = some (Value.int .i64 (b 5)) := blk_cell hk1 6
  have HBW := Lib.hid hbw
  have HK0 := Lib.hid hk0
  have HK1 := Lib.hid hk1
  have HK2 := Lib.hid hk2
  have HP := Lib.hid hP
  have HS := Lib.hid hS
  have HX := Lib.hid hX
  have HY := Lib.hid hY
  have Hm := Lib.hid hm
  have Hn := Lib.hid hn
  have Ha := Lib.hid ha
  have Hb := Lib.hid hb
  have hg : w.heap.size ≤ w.heap.size + 1 + 1 := by omega
  clear hbw hk0 hk1 hk2 hP hS hX hY hm hn ha hb
  by_cases hmn : m = n
  · subst hmn
    obtain ⟨d, hd⟩ : ∃ d, dgs (X + Y) = d := ⟨_, rfl⟩
    rw [hd] at HP
    have HE : Hid (bigC m d = bigN (x + y)) := Lib.hid (by
      unfold bigN
      rw [← hd]
      have h1 := HX.out
      have h2 := HY.out
      have h3 := Hm.out
      have h4 := Hn.out
      unfold mag at h1 h2 ⊢
      by_cases hx : x < 0
      · have hy : y < 0 := of_decide_eq_true (h4.trans (h3.symm.trans (decide_eq_true hx)))
        rw [if_pos hx] at h1
        rw [if_pos hy] at h2
        rw [if_pos (by omega), ← h3, decide_eq_true hx, decide_eq_true (by omega), show X + Y = -(x + y) by omega]
      · have hy : ¬ y < 0 := of_decide_eq_false (h4.trans (h3.symm.trans (decide_eq_false hx)))
        rw [if_neg hx] at h1
        rw [if_neg hy] at h2
        rw [if_neg (by omega), ← h3, decide_eq_false hx, decide_eq_false (by omega), show X + Y = x + y by omega])
    have hmm : (m == m) = true := by simp
    clear hd
    go_enter Try.func95, Try.ntmps95
    go_wp2_with fail
    refine (HP.out _).mono ?_
    rintro e w1 ⟨he, hb1⟩
    obtain rfl : e = .returned (.agg #[.bool m, .int .i64 (d 0), .int .i64 (d 1), .int .i64 (d 2), .int .i64 (d 3), .int .i64 (d 4), .int .i64 (d 5)]) := he
    have hbl := below_then HBW.out HBW.out.size hb1
    have hC := (hb1.block (w.heap.size + 1 + 1) (by simp)).trans HK2.out
    have y0 : w1.cell? ⟨w.heap.size + 1 + 1, 0, none⟩ = some (Value.bool false) := blk_cell hC 0
    have y1 : w1.cell? ⟨w.heap.size + 1 + 1, 1, none⟩ = some (Value.int .i64 0) := blk_cell hC 1
    have y2 : w1.cell? ⟨w.heap.size + 1 + 1, 2, none⟩ = some (Value.int .i64 0) := blk_cell hC 2
    have y3 : w1.cell? ⟨w.heap.size + 1 + 1, 3, none⟩ = some (Value.int .i64 0) := blk_cell hC 3
    have y4 : w1.cell? ⟨w.heap.size + 1 + 1, 4, none⟩ = some (Value.int .i64 0) := blk_cell hC 4
    have y5 : w1.cell? ⟨w.heap.size + 1 + 1, 5, none⟩ = some (Value.int .i64 0) := blk_cell hC 5
    have y6 : w1.cell? ⟨w.heap.size + 1 + 1, 6, none⟩ = some (Value.int .i64 0) := blk_cell hC 6
    have z0 : w1.frozen? ⟨w.heap.size + 1 + 1, 0, none⟩ = false := blk_frozen hC 0
    have z1 : w1.frozen? ⟨w.heap.size + 1 + 1, 1, none⟩ = false := blk_frozen hC 1
    have z2 : w1.frozen? ⟨w.heap.size + 1 + 1, 2, none⟩ = false := blk_frozen hC 2
    have z3 : w1.frozen? ⟨w.heap.size + 1 + 1, 3, none⟩ = false := blk_frozen hC 3
    have z4 : w1.frozen? ⟨w.heap.size + 1 + 1, 4, none⟩ = false := blk_frozen hC 4
    have z5 : w1.frozen? ⟨w.heap.size + 1 + 1, 5, none⟩ = false := blk_frozen hC 5
    have z6 : w1.frozen? ⟨w.heap.size + 1 + 1, 6, none⟩ = false := blk_frozen hC 6
    have hlt := blk_lt hC
    clear hC hb1
    go_wp2_with fail
    refine bodyPost_ret (v := .agg #[.bool m, .int .i64 (d 0), .int .i64 (d 1), .int .i64 (d 2), .int .i64 (d 3), .int .i64 (d 4), .int .i64 (d 5)]) (by simp [results, Try.results95, go_sem, *]) rfl ?_
    exact ⟨by rw [← HE.out]; rfl, ((((((hbl.setCell hg _).setCell hg _).setCell hg _).setCell hg _).setCell hg _).setCell hg _).setCell hg _⟩
  · have hmm : (m == n) = false := beq_eq_false_iff_ne.2 hmn
    have Hmn := Lib.hid hmn
    clear hmn
    go_enter Try.func95, Try.ntmps95
    go_wp2_with fail
    refine (HS.out _).mono ?_
    rintro e w1 ⟨rfl, hb1⟩
    have hbl := below_then HBW.out HBW.out.size hb1
    have hA := (hb1.block w.heap.size (by simp; omega)).trans HK0.out
    have hB := (hb1.block (w.heap.size + 1) (by simp)).trans HK1.out
    have hC := (hb1.block (w.heap.size + 1 + 1) (by simp)).trans HK2.out
    clear e0 e1 e2 e3 e4 e5 e6 f0 f1 f2 f3 f4 f5 f6 hb1
    have e0 : w1.cell? ⟨w.heap.size, 0, none⟩ = some (Value.bool m) := blk_cell hA 0
    have e1 : w1.cell? ⟨w.heap.size, 1, none⟩ = some (Value.int .i64 (a 0)) := blk_cell hA 1
    have e2 : w1.cell? ⟨w.heap.size, 2, none⟩ = some (Value.int .i64 (a 1)) := blk_cell hA 2
    have e3 : w1.cell? ⟨w.heap.size, 3, none⟩ = some (Value.int .i64 (a 2)) := blk_cell hA 3
    have e4 : w1.cell? ⟨w.heap.size, 4, none⟩ = some (Value.int .i64 (a 3)) := blk_cell hA 4
    have e5 : w1.cell? ⟨w.heap.size, 5, none⟩ = some (Value.int .i64 (a 4)) := blk_cell hA 5
    have e6 : w1.cell? ⟨w.heap.size, 6, none⟩ = some (Value.int .i64 (a 5)) := blk_cell hA 6
    have f0 : w1.cell? ⟨w.heap.size + 1, 0, none⟩ = some (Value.bool n) := blk_cell hB 0
    have f1 : w1.cell? ⟨w.heap.size + 1, 1, none⟩ = some (Value.int .i64 (b 0)) := blk_cell hB 1
    have f2 : w1.cell? ⟨w.heap.size + 1, 2, none⟩ = some (Value.int .i64 (b 1)) := blk_cell hB 2
    have f3 : w1.cell? ⟨w.heap.size + 1, 3, none⟩ = some (Value.int .i64 (b 2)) := blk_cell hB 3
    have f4 : w1.cell? ⟨w.heap.size + 1, 4, none⟩ = some (Value.int .i64 (b 3)) := blk_cell hB 4
    have f5 : w1.cell? ⟨w.heap.size + 1, 5, none⟩ = some (Value.int .i64 (b 4)) := blk_cell hB 5
    have f6 : w1.cell? ⟨w.heap.size + 1, 6, none⟩ = some (Value.int .i64 (b 5)) := blk_cell hB 6
    have q0 : w1.frozen? ⟨w.heap.size, 0, none⟩ = false := blk_frozen hA 0
    have q1 : w1.frozen? ⟨w.heap.size, 1, none⟩ = false := blk_frozen hA 1
    have q2 : w1.frozen? ⟨w.heap.size, 2, none⟩ = false := blk_frozen hA 2
    have q3 : w1.frozen? ⟨w.heap.size, 3, none⟩ = false := blk_frozen hA 3
    have q4 : w1.frozen? ⟨w.heap.size, 4, none⟩ = false := blk_frozen hA 4
    have q5 : w1.frozen? ⟨w.heap.size, 5, none⟩ = false := blk_frozen hA 5
    have q6 : w1.frozen? ⟨w.heap.size, 6, none⟩ = false := blk_frozen hA 6
    have r0 : w1.frozen? ⟨w.heap.size + 1, 0, none⟩ = false := blk_frozen hB 0
    have r1 : w1.frozen? ⟨w.heap.size + 1, 1, none⟩ = false := blk_frozen hB 1
    have r2 : w1.frozen? ⟨w.heap.size + 1, 2, none⟩ = false := blk_frozen hB 2
    have r3 : w1.frozen? ⟨w.heap.size + 1, 3, none⟩ = false := blk_frozen hB 3
    have r4 : w1.frozen? ⟨w.heap.size + 1, 4, none⟩ = false := blk_frozen hB 4
    have r5 : w1.frozen? ⟨w.heap.size + 1, 5, none⟩ = false := blk_frozen hB 5
    have r6 : w1.frozen? ⟨w.heap.size + 1, 6, none⟩ = false := blk_frozen hB 6
    have hlt := blk_lt hC
    have HkC := Lib.hid hC
    clear hA hB hC
    by_cases hXY : X < Y
    · rw [if_pos hXY]
      obtain ⟨d, hd⟩ : ∃ d, dgs (Y - X) = d := ⟨_, rfl⟩
      have HL := Lib.hid (fun w => lessV n m Y X (by omega) (by omega) (by omega) w)
      have HZ := Lib.hid (fun w => zeroV n (Y - X) (by omega) w)
      rw [hd] at HL HZ
      rw [Hb.out, Ha.out] at HL
      have Hd := Lib.hid hd
      clear hd
      go_wp2_with fail
      generalize hW2 : World.setCell _ _ _ = W2
      have hb2 : Below w.heap.size w W2 := by
        rw [← hW2]
        repeat' (refine Below.setCell ?_ (by first | exact Nat.le_refl _ | exact Nat.le_succ _) _)
        exact hbl
      have hC2 : W2.heap[w.heap.size + 1 + 1]? = some (.cells (bigC false big0) 132 (0, 0)) := by
        rw [← hW2]
        repeat (rw [Below.heap_setCell _ _ _ _ (by first | (show w.heap.size + 1 + 1 ≠ w.heap.size; omega) | (show w.heap.size + 1 + 1 ≠ w.heap.size + 1; omega))])
        exact HkC.out
      clear hW2 e0 e1 e2 e3 e4 e5 e6 f0 f1 f2 f3 f4 f5 f6 q0 q1 q2 q3 q4 q5 q6 r0 r1 r2 r3 r4 r5 r6
      have HC2 := Lib.hid hC2
      clear hC2
      refine (HL.out _).mono ?_
      rintro e w3 ⟨he, hb3⟩
      obtain rfl : e = .returned (.agg #[.bool n, .int .i64 (d 0), .int .i64 (d 1), .int .i64 (d 2), .int .i64 (d 3), .int .i64 (d 4), .int .i64 (d 5)]) := he
      have hb13 := below_then hb2 hb2.size hb3
      have hC3 := (hb3.block (w.heap.size + 1 + 1) (blk_lt HC2.out)).trans HC2.out
      have hlt3 := blk_lt hC3
      have HC3 := Lib.hid hC3
      clear hC3 hb3 hb2
      go_wp2_with fail
      refine (HZ.out _).mono ?_
      rintro e w4 ⟨rfl, hb4⟩
      have hb14 := below_then (hb13.alloc hb13.size (.cells #[.bool n, .int .i64 (d 0), .int .i64 (d 1), .int .i64 (d 2), .int .i64 (d 3), .int .i64 (d 4), .int .i64 (d 5)] 132)) (by have := hb13.size; simp; omega) hb4
      have hD4 := (hb4.block w3.heap.size (by simp)).trans (heap_alloc_new w3 (.cells (bigC n d) 132))
      have hC4 := (hb4.block (w.heap.size + 1 + 1) (by simp; omega)).trans (heap_old w3 (.cells (bigC n d) 132) _ HC3.out)
      have hlt4 := blk_lt hD4
      have hge4 := hb13.size
      clear hb4
      have y0 : w4.cell? ⟨w.heap.size + 1 + 1, 0, none⟩ = some (Value.bool false) := blk_cell hC4 0
      have y1 : w4.cell? ⟨w.heap.size + 1 + 1, 1, none⟩ = some (Value.int .i64 0) := blk_cell hC4 1
      have y2 : w4.cell? ⟨w.heap.size + 1 + 1, 2, none⟩ = some (Value.int .i64 0) := blk_cell hC4 2
      have y3 : w4.cell? ⟨w.heap.size + 1 + 1, 3, none⟩ = some (Value.int .i64 0) := blk_cell hC4 3
      have y4 : w4.cell? ⟨w.heap.size + 1 + 1, 4, none⟩ = some (Value.int .i64 0) := blk_cell hC4 4
      have y5 : w4.cell? ⟨w.heap.size + 1 + 1, 5, none⟩ = some (Value.int .i64 0) := blk_cell hC4 5
      have y6 : w4.cell? ⟨w.heap.size + 1 + 1, 6, none⟩ = some (Value.int .i64 0) := blk_cell hC4 6
      have z0 : w4.frozen? ⟨w.heap.size + 1 + 1, 0, none⟩ = false := blk_frozen hC4 0
      have z1 : w4.frozen? ⟨w.heap.size + 1 + 1, 1, none⟩ = false := blk_frozen hC4 1
      have z2 : w4.frozen? ⟨w.heap.size + 1 + 1, 2, none⟩ = false := blk_frozen hC4 2
      have z3 : w4.frozen? ⟨w.heap.size + 1 + 1, 3, none⟩ = false := blk_frozen hC4 3
      have z4 : w4.frozen? ⟨w.heap.size + 1 + 1, 4, none⟩ = false := blk_frozen hC4 4
      have z5 : w4.frozen? ⟨w.heap.size + 1 + 1, 5, none⟩ = false := blk_frozen hC4 5
      have z6 : w4.frozen? ⟨w.heap.size + 1 + 1, 6, none⟩ = false := blk_frozen hC4 6
      have e0 : w4.cell? ⟨w3.heap.size, 0, none⟩ = some (Value.bool n) := blk_cell hD4 0
      have e1 : w4.cell? ⟨w3.heap.size, 1, none⟩ = some (Value.int .i64 (d 0)) := blk_cell hD4 1
      have e2 : w4.cell? ⟨w3.heap.size, 2, none⟩ = some (Value.int .i64 (d 1)) := blk_cell hD4 2
      have e3 : w4.cell? ⟨w3.heap.size, 3, none⟩ = some (Value.int .i64 (d 2)) := blk_cell hD4 3
      have e4 : w4.cell? ⟨w3.heap.size, 4, none⟩ = some (Value.int .i64 (d 3)) := blk_cell hD4 4
      have e5 : w4.cell? ⟨w3.heap.size, 5, none⟩ = some (Value.int .i64 (d 4)) := blk_cell hD4 5
      have e6 : w4.cell? ⟨w3.heap.size, 6, none⟩ = some (Value.int .i64 (d 5)) := blk_cell hD4 6
      have q0 : w4.frozen? ⟨w3.heap.size, 0, none⟩ = false := blk_frozen hD4 0
      clear hC4 hD4
      have hne : w3.heap.size ≠ w.heap.size + 1 + 1 := by omega
      have hne' : w.heap.size + 1 + 1 ≠ w3.heap.size := by omega
      by_cases hz : Y - X = 0
      · have hz' : decide (Y - X = 0) = true := decide_eq_true hz
        have HE : Hid (bigC false d = bigN (x + y)) := Lib.hid (by
          exact add_zero Hm.out Hn.out HX.out HY.out Hmn.out (by omega) Hd.out (by omega))
        clear hz
        go_wp2_with fail
        refine bodyPost_ret (v := .agg #[.bool false, .int .i64 (d 0), .int .i64 (d 1), .int .i64 (d 2), .int .i64 (d 3), .int .i64 (d 4), .int .i64 (d 5)]) (by simp [results, Try.results95, go_sem, *]) rfl ?_
        exact ⟨by rw [← HE.out]; rfl, (((((((hb14.setCell (by show w.heap.size ≤ w3.heap.size; omega) _).setCell hg _).setCell hg _).setCell hg _).setCell hg _).setCell hg _).setCell hg _).setCell hg _⟩
      · have hz' : decide (Y - X = 0) = false := decide_eq_false hz
        have HE : Hid (bigC n d = bigN (x + y)) := Lib.hid (by
          exact add_signn Hm.out Hn.out HX.out HY.out Hmn.out (by omega) Hd.out)
        clear hz
        go_wp2_with fail
        refine bodyPost_ret (v := .agg #[.bool n, .int .i64 (d 0), .int .i64 (d 1), .int .i64 (d 2), .int .i64 (d 3), .int .i64 (d 4), .int .i64 (d 5)]) (by simp [results, Try.results95, go_sem, *]) rfl ?_
        exact ⟨by rw [← HE.out]; rfl, ((((((hb14.setCell hg _).setCell hg _).setCell hg _).setCell hg _).setCell hg _).setCell hg _).setCell hg _⟩
    · have hif : (if X < Y then (-1 : Int) else if X > Y then 1 else 0) < 0 ↔ False := by
        rw [if_neg hXY]
        split <;> simp
      obtain ⟨sz, hsz⟩ : ∃ sz, (if X < Y then (-1 : Int) else if X > Y then 1 else 0) = sz := ⟨_, rfl⟩
      rw [hsz] at hif ⊢
      have hsz0 : ¬ sz < 0 := fun h => hif.1 h
      clear hsz hif
      obtain ⟨d, hd⟩ : ∃ d, dgs (X - Y) = d := ⟨_, rfl⟩
      have HL := Lib.hid (fun w => lessV m n X Y (by omega) (by omega) (by omega) w)
      have HZ := Lib.hid (fun w => zeroV m (X - Y) (by omega) w)
      rw [hd] at HL HZ
      rw [Ha.out, Hb.out] at HL
      have Hd := Lib.hid hd
      clear hd
      go_wp2_with fail
      have hb2 := hbl
      have hC2 := HkC.out
      clear e0 e1 e2 e3 e4 e5 e6 f0 f1 f2 f3 f4 f5 f6 q0 q1 q2 q3 q4 q5 q6 r0 r1 r2 r3 r4 r5 r6
      have HC2 := Lib.hid hC2
      clear hC2
      refine (HL.out _).mono ?_
      rintro e w3 ⟨he, hb3⟩
      obtain rfl : e = .returned (.agg #[.bool m, .int .i64 (d 0), .int .i64 (d 1), .int .i64 (d 2), .int .i64 (d 3), .int .i64 (d 4), .int .i64 (d 5)]) := he
      have hb13 := below_then hb2 hb2.size hb3
      have hC3 := (hb3.block (w.heap.size + 1 + 1) (blk_lt HC2.out)).trans HC2.out
      have hlt3 := blk_lt hC3
      have HC3 := Lib.hid hC3
      clear hC3 hb3 hb2
      go_wp2_with fail
      refine (HZ.out _).mono ?_
      rintro e w4 ⟨rfl, hb4⟩
      have hb14 := below_then (hb13.alloc hb13.size (.cells #[.bool m, .int .i64 (d 0), .int .i64 (d 1), .int .i64 (d 2), .int .i64 (d 3), .int .i64 (d 4), .int .i64 (d 5)] 132)) (by have := hb13.size; simp; omega) hb4
      have hD4 := (hb4.block w3.heap.size (by simp)).trans (heap_alloc_new w3 (.cells (bigC m d) 132))
      have hC4 := (hb4.block (w.heap.size + 1 + 1) (by simp; omega)).trans (heap_old w3 (.cells (bigC m d) 132) _ HC3.out)
      have hlt4 := blk_lt hD4
      have hge4 := hb13.size
      clear hb4
      have y0 : w4.cell? ⟨w.heap.size + 1 + 1, 0, none⟩ = some (Value.bool false) := blk_cell hC4 0
      have y1 : w4.cell? ⟨w.heap.size + 1 + 1, 1, none⟩ = some (Value.int .i64 0) := blk_cell hC4 1
      have y2 : w4.cell? ⟨w.heap.size + 1 + 1, 2, none⟩ = some (Value.int .i64 0) := blk_cell hC4 2
      have y3 : w4.cell? ⟨w.heap.size + 1 + 1, 3, none⟩ = some (Value.int .i64 0) := blk_cell hC4 3
      have y4 : w4.cell? ⟨w.heap.size + 1 + 1, 4, none⟩ = some (Value.int .i64 0) := blk_cell hC4 4
      have y5 : w4.cell? ⟨w.heap.size + 1 + 1, 5, none⟩ = some (Value.int .i64 0) := blk_cell hC4 5
      have y6 : w4.cell? ⟨w.heap.size + 1 + 1, 6, none⟩ = some (Value.int .i64 0) := blk_cell hC4 6
      have z0 : w4.frozen? ⟨w.heap.size + 1 + 1, 0, none⟩ = false := blk_frozen hC4 0
      have z1 : w4.frozen? ⟨w.heap.size + 1 + 1, 1, none⟩ = false := blk_frozen hC4 1
      have z2 : w4.frozen? ⟨w.heap.size + 1 + 1, 2, none⟩ = false := blk_frozen hC4 2
      have z3 : w4.frozen? ⟨w.heap.size + 1 + 1, 3, none⟩ = false := blk_frozen hC4 3
      have z4 : w4.frozen? ⟨w.heap.size + 1 + 1, 4, none⟩ = false := blk_frozen hC4 4
      have z5 : w4.frozen? ⟨w.heap.size + 1 + 1, 5, none⟩ = false := blk_frozen hC4 5
      have z6 : w4.frozen? ⟨w.heap.size + 1 + 1, 6, none⟩ = false := blk_frozen hC4 6
      have e0 : w4.cell? ⟨w3.heap.size, 0, none⟩ = some (Value.bool m) := blk_cell hD4 0
      have e1 : w4.cell? ⟨w3.heap.size, 1, none⟩ = some (Value.int .i64 (d 0)) := blk_cell hD4 1
      have e2 : w4.cell? ⟨w3.heap.size, 2, none⟩ = some (Value.int .i64 (d 1)) := blk_cell hD4 2
      have e3 : w4.cell? ⟨w3.heap.size, 3, none⟩ = some (Value.int .i64 (d 2)) := blk_cell hD4 3
      have e4 : w4.cell? ⟨w3.heap.size, 4, none⟩ = some (Value.int .i64 (d 3)) := blk_cell hD4 4
      have e5 : w4.cell? ⟨w3.heap.size, 5, none⟩ = some (Value.int .i64 (d 4)) := blk_cell hD4 5
      have e6 : w4.cell? ⟨w3.heap.size, 6, none⟩ = some (Value.int .i64 (d 5)) := blk_cell hD4 6
      have q0 : w4.frozen? ⟨w3.heap.size, 0, none⟩ = false := blk_frozen hD4 0
      clear hC4 hD4
      have hne : w3.heap.size ≠ w.heap.size + 1 + 1 := by omega
      have hne' : w.heap.size + 1 + 1 ≠ w3.heap.size := by omega
      by_cases hz : X - Y = 0
      · have hz' : decide (X - Y = 0) = true := decide_eq_true hz
        have HE : Hid (bigC false d = bigN (x + y)) := Lib.hid (by
          exact add_zero Hm.out Hn.out HX.out HY.out Hmn.out (by omega) Hd.out (by omega))
        clear hz
        go_wp2_with fail
        refine bodyPost_ret (v := .agg #[.bool false, .int .i64 (d 0), .int .i64 (d 1), .int .i64 (d 2), .int .i64 (d 3), .int .i64 (d 4), .int .i64 (d 5)]) (by simp [results, Try.results95, go_sem, *]) rfl ?_
        exact ⟨by rw [← HE.out]; rfl, (((((((hb14.setCell (by show w.heap.size ≤ w3.heap.size; omega) _).setCell hg _).setCell hg _).setCell hg _).setCell hg _).setCell hg _).setCell hg _).setCell hg _⟩
      · have hz' : decide (X - Y = 0) = false := decide_eq_false hz
        have HE : Hid (bigC m d = bigN (x + y)) := Lib.hid (by
          exact add_signm Hm.out Hn.out HX.out HY.out Hmn.out (by omega) Hd.out)
        clear hz
        go_wp2_with fail
        refine bodyPost_ret (v := .agg #[.bool m, .int .i64 (d 0), .int .i64 (d 1), .int .i64 (d 2), .int .i64 (d 3), .int .i64 (d 4), .int .i64 (d 5)]) (by simp [results, Try.results95, go_sem, *]) rfl ?_
        exact ⟨by rw [← HE.out]; rfl, ((((((hb14.setCell hg _).setCell hg _).setCell hg _).setCell hg _).setCell hg _).setCell hg _).setCell hg _⟩
end Go.Proofs.Ytlkdehflipfpbaa.big
namespace Go.Proofs.Ytlkdehflipfpbaa.big
open Go.RowKit Go.Proofs.YtlkdehflipfpbaaW.PrintWords
theorem mag_range (x : Int) (L : Int) (h : -L < x ∧ x < L) : 0 ≤ mag x ∧ mag x < L := by
  unfold mag
  split <;> omega
theorem mag_zero (x : Int) : mag x = 0 ↔ x = 0 := by
  unfold mag
  split <;> omega
theorem bigN_neg (y : Int) : bigC (if mag y = 0 then decide (y < 0) else !decide (y < 0)) (dgs (mag y)) = bigN (-y) := by
  have h : mag (-y) = mag y := by unfold mag; split <;> split <;> omega
  unfold bigN
  rw [h]
  by_cases h0 : y = 0
  · subst h0; rfl
  · rw [if_neg (fun h => h0 ((mag_zero y).1 h))]
    congr 1
    by_cases h1 : y < 0
    · rw [decide_eq_true h1, decide_eq_false (by omega)]; rfl
    · rw [decide_eq_false h1, decide_eq_true (by omega)]; rfl
/-- Neg on numbers. -/
theorem negN (y : Int) (h : mag y < 6277101735386680763835789423207666416102355444464034512896) (w : World) :
    Calls Try.prog 97 #[.agg (bigN y)] w fun e w' => e = .returned (.agg (bigN (-y))) ∧ Below w.heap.size w w' := by
  rw [← bigN_neg y]
  exact negV _ _ ⟨by unfold mag; split <;> omega, h⟩ w
theorem zeroN (y : Int) (h : mag y < 6277101735386680763835789423207666416102355444464034512896) (w : World) :
    Calls Try.prog 116 #[.agg (bigN y)] w fun e w' => e = .returned (.bool (decide (y = 0))) ∧ Below w.heap.size w w' := by
  rw [show decide (y = 0) = decide (mag y = 0) from decide_eq_decide.2 (mag_zero y).symm]
  exact zeroV _ _ ⟨by unfold mag; split <;> omega, h⟩ w
/-- Two numbers lie at g and behind it. -/
def Two (w : World) (m : Bool) (a : Nat → Int) (n : Bool) (b : Nat → Int) (W : World) : Prop :=
  W.heap[w.heap.size]? = some (.cells (bigC m a) 132 (0, 0)) ∧ W.heap[w.heap.size + 1]? = some (.cells (bigC n b) 132 (0, 0)) ∧ Below w.heap.size w W
section
variable {w W W' : World} {m n : Bool} {a b : Nat → Int}
theorem Two.below (h : Two w m a n b W) (hb : Below W.heap.size W W') : Two w m a n b W' :=
  ⟨(hb.block _ (blk_lt h.1)).trans h.1, (hb.block _ (blk_lt h.2.1)).trans h.2.1, below_then h.2.2 h.2.2.size hb⟩
theorem Two.alloc (h : Two w m a n b W) (o : Obj) : Two w m a n b (W.alloc o) := h.below (below_alloc (Below.refl _ _) o)
theorem Two.drew (h : Two w m a n b W) : Two w m a n b W.drew := ⟨h.1, h.2.1, below_drew h.2.2⟩
theorem Two.set (h : Two w m a n b W) {p : Addr} (hp : w.heap.size + 1 < p.block) (u : Value) : Two w m a n b (W.setCell p u) :=
  ⟨blk_far h.1 (by omega) u, blk_far h.2.1 (by omega) u, h.2.2.setCell (by omega) u⟩
theorem Two.all (h : Two w m a n b W) : Two w m a n b W ∧ (W.cell? ⟨w.heap.size, 0, none⟩ = some (Value.bool m) ∧ W.cell? ⟨w.heap.size, 1, none⟩ = some (Value.int .i64 (a 0)) ∧ W.cell? ⟨w.heap.size, 2, none⟩ = some (Value.int .i64 (a 1)) ∧ W.cell? ⟨w.heap.size, 3, none⟩ = some (Value.int .i64 (a 2)) ∧ W.cell? ⟨w.heap.size, 4, none⟩ = some (Value.int .i64 (a 3)) ∧ W.cell? ⟨w.heap.size, 5, none⟩ = some (Value.int .i64 (a 4)) ∧ W.cell? ⟨w.heap.size, 6, none⟩ = some (Value.int .i64 (a 5))) ∧ (W.cell? ⟨w.heap.size + 1, 0, none⟩ = some (Value.bool n) ∧ W.cell? ⟨w.heap.size + 1, 1, none⟩ = some (Value.int .i64 (b 0)) ∧ W.cell? ⟨w.heap.size + 1, 2, none⟩ = some (Value.int .i64 (b 1)) ∧ W.cell? ⟨w.heap.size + 1, 3, none⟩ = some (Value.int .i64 (b 2)) ∧ W.cell? ⟨w.heap.size + 1, 4, none⟩ = some (Value.int .i64 (b 3)) ∧ W.cell? ⟨w.heap.size + 1, 5, none⟩ = some (Value.int .i64 (b 4)) ∧ W.cell? ⟨w.heap.size + 1, 6, none⟩ = some (Value.int .i64 (b 5))) :=
  ⟨h, ⟨blk_cell h.1 0, blk_cell h.1 1, blk_cell h.1 2, blk_cell h.1 3, blk_cell h.1 4, blk_cell h.1 5, blk_cell h.1 6⟩, ⟨blk_cell h.2.1 0, blk_cell h.2.1 1, blk_cell h.2.1 2, blk_cell h.2.1 3, blk_cell h.2.1 4, blk_cell h.2.1 5, blk_cell h.2.1 6⟩⟩
end
theorem tgt {W : World} {g : Nat} {t : TypeId} (h : W.heap[g]? = some (.cells #[.bool false, .int .i64 0, .int .i64 0, .int .i64 0, .int .i64 0, .int .i64 0, .int .i64 0] t (0, 0))) :
    (W.cell? ⟨g, 0, none⟩ = some (Value.bool false) ∧ W.cell? ⟨g, 1, none⟩ = some (Value.int .i64 0) ∧ W.cell? ⟨g, 2, none⟩ = some (Value.int .i64 0) ∧ W.cell? ⟨g, 3, none⟩ = some (Value.int .i64 0) ∧ W.cell? ⟨g, 4, none⟩ = some (Value.int .i64 0) ∧ W.cell? ⟨g, 5, none⟩ = some (Value.int .i64 0) ∧ W.cell? ⟨g, 6, none⟩ = some (Value.int .i64 0)) ∧
    (W.frozen? ⟨g, 0, none⟩ = false ∧ W.frozen? ⟨g, 1, none⟩ = false ∧ W.frozen? ⟨g, 2, none⟩ = false ∧ W.frozen? ⟨g, 3, none⟩ = false ∧ W.frozen? ⟨g, 4, none⟩ = false ∧ W.frozen? ⟨g, 5, none⟩ = false ∧ W.frozen? ⟨g, 6, none⟩ = false) :=
  ⟨⟨blk_cell h 0, blk_cell h 1, blk_cell h 2, blk_cell h 3, blk_cell h 4, blk_cell h 5, blk_cell h 6⟩, ⟨blk_frozen h 0, blk_frozen h 1, blk_frozen h 2, blk_frozen h 3, blk_frozen h 4, blk_frozen h 5, blk_frozen h 6⟩⟩
theorem store7 {W : World} {g : Nat} {t : TypeId} {x0 x1 x2 x3 x4 x5 x6 : Value} (h : W.heap[g]? = some (.cells #[x0, x1, x2, x3, x4, x5, x6] t (0, 0))) (u0 u1 u2 u3 u4 u5 u6 : Value) :
    (((((((W.setCell ⟨g, 0, none⟩ u0).setCell ⟨g, 1, none⟩ u1).setCell ⟨g, 2, none⟩ u2).setCell ⟨g, 3, none⟩ u3).setCell ⟨g, 4, none⟩ u4).setCell ⟨g, 5, none⟩ u5).setCell ⟨g, 6, none⟩ u6).heap[g]? = some (.cells #[u0, u1, u2, u3, u4, u5, u6] t (0, 0)) := by
  have h0 := blk_put (cs' := #[u0, x1, x2, x3, x4, x5, x6]) h 0 u0 rfl
  have h1 := blk_put (cs' := #[u0, u1, x2, x3, x4, x5, x6]) h0 1 u1 rfl
  have h2 := blk_put (cs' := #[u0, u1, u2, x3, x4, x5, x6]) h1 2 u2 rfl
  have h3 := blk_put (cs' := #[u0, u1, u2, u3, x4, x5, x6]) h2 3 u3 rfl
  have h4 := blk_put (cs' := #[u0, u1, u2, u3, u4, x5, x6]) h3 4 u4 rfl
  have h5 := blk_put (cs' := #[u0, u1, u2, u3, u4, u5, x6]) h4 5 u5 rfl
  have h6 := blk_put (cs' := #[u0, u1, u2, u3, u4, u5, u6]) h5 6 u6 rfl
  exact h6
theorem big_store {W : World} {g : Nat} {t : TypeId} {m0 s : Bool} {d0 d : Nat → Int} (h : W.heap[g]? = some (.cells (bigC m0 d0) t (0, 0))) :
    (((((((W.setCell ⟨g, 0, none⟩ (.bool s)).setCell ⟨g, 1, none⟩ (.int .i64 (d 0))).setCell ⟨g, 2, none⟩ (.int .i64 (d 1))).setCell ⟨g, 3, none⟩ (.int .i64 (d 2))).setCell ⟨g, 4, none⟩ (.int .i64 (d 3))).setCell ⟨g, 5, none⟩ (.int .i64 (d 4))).setCell ⟨g, 6, none⟩ (.int .i64 (d 5))).heap[g]? = some (.cells (bigC s d) t (0, 0)) :=
  store7 h _ _ _ _ _ _ _
theorem Two.store {w W : World} {m n s : Bool} {a b d : Nat → Int} {g : Nat} (h : Two w m a n b W) (hg : w.heap.size + 1 < g) :
    Two w m a n b (((((((W.setCell ⟨g, 0, none⟩ (.bool s)).setCell ⟨g, 1, none⟩ (.int .i64 (d 0))).setCell ⟨g, 2, none⟩ (.int .i64 (d 1))).setCell ⟨g, 3, none⟩ (.int .i64 (d 2))).setCell ⟨g, 4, none⟩ (.int .i64 (d 3))).setCell ⟨g, 5, none⟩ (.int .i64 (d 4))).setCell ⟨g, 6, none⟩ (.int .i64 (d 5))) :=
  ((((((h.set hg _).set hg _).set hg _).set hg _).set hg _).set hg _).set hg _
/-- The order of two numbers. -/
def cmp (x y : Int) : Int := if x - y = 0 then 0 else if x - y < 0 then -1 else 1
set_option maxRecDepth 100000 in
set_option maxHeartbeats 2000000 in
theorem compareV (x y : Int) (h : mag x + mag y < 6277101735386680763835789423207666416102355444464034512896) (w : World) :
    Calls Try.prog 127 #[.agg (bigN x), .agg (bigN y)] w fun e w' => e = .returned (.int .i64 (cmp x y)) ∧ Below w.heap.size w w' := by
  have hxm : 0 ≤ mag x := by unfold mag; split <;> omega
  have hym : 0 ≤ mag y := by unfold mag; split <;> omega
  have hmn : mag (-y) = mag y := by unfold mag; split <;> split <;> omega
  have hms : mag (x - y) ≤ mag x + mag y := by unfold mag; split <;> split <;> split <;> omega
  have HN := Lib.hid (fun w => negN y (by omega) w)
  have HA := Lib.hid (fun w => addV x (-y) (by rw [hmn]; exact h) w)
  rw [show x + -y = x - y by omega] at HA
  have HZ := Lib.hid (fun w => zeroN (x - y) (by omega) w)
  have hneg : ∃ b, decide (x - y < 0) = b := ⟨_, rfl⟩
  obtain ⟨s, hs⟩ := hneg
  obtain ⟨d, hd⟩ : ∃ d, dgs (mag (x - y)) = d := ⟨_, rfl⟩
  rw [show bigN (x - y) = bigC s d by unfold bigN; rw [hs, hd]] at HA HZ
  obtain ⟨n', hn'⟩ : ∃ n', decide (-y < 0) = n' := ⟨_, rfl⟩
  obtain ⟨b', hb'⟩ : ∃ b', dgs (mag (-y)) = b' := ⟨_, rfl⟩
  rw [show bigN (-y) = bigC n' b' by unfold bigN; rw [hn', hb']] at HA HN
  obtain ⟨m, hm⟩ : ∃ m, decide (x < 0) = m := ⟨_, rfl⟩
  obtain ⟨n, hn⟩ : ∃ n, decide (y < 0) = n := ⟨_, rfl⟩
  obtain ⟨a, ha⟩ : ∃ a, dgs (mag x) = a := ⟨_, rfl⟩
  obtain ⟨b, hb⟩ : ∃ b, dgs (mag y) = b := ⟨_, rfl⟩
  rw [show bigN x = bigC m a by unfold bigN; rw [hm, ha]] at HA ⊢
  rw [show bigN y = bigC n b by unfold bigN; rw [hn, hb]] at HN ⊢
  obtain ⟨z, hz⟩ : ∃ z, cmp x y = z := ⟨_, rfl⟩
  rw [hz]
  have Hz := Lib.hid hz
  have Hs := Lib.hid hs
  clear hd hn' hb' hm hn ha hb hz hs
  have hT0 : Two w m a n b ((w.alloc (.cells (bigC m a) 132)).alloc (.cells (bigC n b) 132)) :=
    ⟨heap_old _ _ _ (heap_alloc_new w _), heap_at1 w _ _, ((Below.refl _ w).alloc (Nat.le_refl _) _).alloc (by simp) _⟩
  have HT0 := Lib.hid hT0
  clear hT0
  go_enter Try.func127, Try.ntmps127
  go_wp2_with fail
  refine wp_region_held_drew (S := Two w m a n b) (by kernel_rfl) HT0.out.drew (fun hS => ?_)
  refine wpAnyH_take (i := 0) (v := .agg #[.bool m, .int .i64 (a 0), .int .i64 (a 1), .int .i64 (a 2), .int .i64 (a 3), .int .i64 (a 4), .int .i64 (a 5)]) rfl (by kernel_rfl) (by kernel_rfl) (by kernel_rfl) (fun _ _ _ h => h) (Or.inl ⟨by rfl, ?_⟩) hS ?_
  · intro W hW
    obtain ⟨-, ⟨h0, h1, h2, h3, h4, h5, h6⟩, -⟩ := hW.all
    clear hW
    go_simp
  refine wpAnyH_take (i := 1) (v := .agg #[.bool n, .int .i64 (b 0), .int .i64 (b 1), .int .i64 (b 2), .int .i64 (b 3), .int .i64 (b 4), .int .i64 (b 5)]) rfl (by kernel_rfl) (by kernel_rfl) (by kernel_rfl) (fun _ _ _ h => h) (Or.inl ⟨by rfl, ?_⟩) hS ?_
  · intro W hW
    obtain ⟨-, -, ⟨h0, h1, h2, h3, h4, h5, h6⟩⟩ := hW.all
    clear hW
    go_simp
  generalize hW0 : World.drew _ = W0 at hS ⊢
  clear hW0
  refine wpAnyH_ready (rs := [2, 4]) (by kernel_rfl) (by simp) ?_
  refine AllReadyH.cons rfl (fun K hK => ?_) (AllReadyH.cons rfl (fun K hK => ?_) AllReadyH.nil)
  · go_simp
    go_at_call 97
    refine (HN.out _).mono ?_
    rintro e w9 ⟨he, hb⟩
    obtain rfl : e = .returned (.agg #[.bool n', .int .i64 (b' 0), .int .i64 (b' 1), .int .i64 (b' 2), .int .i64 (b' 3), .int .i64 (b' 4), .int .i64 (b' 5)]) := he
    have hS9 := hS.below hb
    clear hb
    go_simp
    refine hK.out _ _ hS9 (fun _ => ?_)
    clear hK K
    refine wpAnyH_ready (rs := [3, 4]) (by kernel_rfl) (by simp) ?_
    refine AllReadyH.cons rfl (fun K hK => ?_) (AllReadyH.cons rfl (fun K hK => ?_) AllReadyH.nil)
    · go_simp
      go_at_call 95
      refine (HA.out _).mono ?_
      rintro e w10 ⟨he, hb⟩
      obtain rfl : e = .returned (.agg #[.bool s, .int .i64 (d 0), .int .i64 (d 1), .int .i64 (d 2), .int .i64 (d 3), .int .i64 (d 4), .int .i64 (d 5)]) := he
      have hS10 := hS9.below hb
      clear hb
      go_simp
      refine hK.out _ _ hS10 (fun _ => ?_)
      clear hK K
      refine wpAnyH_ready (rs := [4]) (by kernel_rfl) (by simp) ?_
      refine AllReadyH.cons rfl (fun K hK => ?_) AllReadyH.nil
      go_simp
      have hSn := hS10.alloc (.cells #[.bool false, .int .i64 0, .int .i64 0, .int .i64 0, .int .i64 0, .int .i64 0, .int .i64 0] 132)
      have hC := heap_alloc_new w10 (.cells (bigC false big0) 132)
      have hgw := blk_lt hS10.2.1
      generalize hWn : World.alloc w10 _ = Wn at hSn ⊢
      rw [show World.alloc w10 (.cells (bigC false big0) 132) = Wn from hWn] at hC
      clear hWn
      generalize w10.heap.size = g at hC hgw ⊢
      refine hK.out _ _ hSn (fun _ => ?_)
      clear hK K
      refine wpAnyH_ready (rs := [5]) (by kernel_rfl) (by simp) ?_
      refine AllReadyH.cons rfl (fun K hK => ?_) AllReadyH.nil
      have y0 : Wn.cell? ⟨g, 0, none⟩ = some (Value.bool false) := blk_cell hC 0
      have y1 : Wn.cell? ⟨g, 1, none⟩ = some (Value.int .i64 0) := blk_cell hC 1
      have y2 : Wn.cell? ⟨g, 2, none⟩ = some (Value.int .i64 0) := blk_cell hC 2
      have y3 : Wn.cell? ⟨g, 3, none⟩ = some (Value.int .i64 0) := blk_cell hC 3
      have y4 : Wn.cell? ⟨g, 4, none⟩ = some (Value.int .i64 0) := blk_cell hC 4
      have y5 : Wn.cell? ⟨g, 5, none⟩ = some (Value.int .i64 0) := blk_cell hC 5
      have y6 : Wn.cell? ⟨g, 6, none⟩ = some (Value.int .i64 0) := blk_cell hC 6
      have z0 : Wn.frozen? ⟨g, 0, none⟩ = false := blk_frozen hC 0
      have z1 : Wn.frozen? ⟨g, 1, none⟩ = false := blk_frozen hC 1
      have z2 : Wn.frozen? ⟨g, 2, none⟩ = false := blk_frozen hC 2
      have z3 : Wn.frozen? ⟨g, 3, none⟩ = false := blk_frozen hC 3
      have z4 : Wn.frozen? ⟨g, 4, none⟩ = false := blk_frozen hC 4
      have z5 : Wn.frozen? ⟨g, 5, none⟩ = false := blk_frozen hC 5
      have z6 : Wn.frozen? ⟨g, 6, none⟩ = false := blk_frozen hC 6
      have hCh := Lib.hid hC
      clear hC
      go_simp
      generalize hWf : World.setCell _ ⟨g, 6, none⟩ _ = Wf
      have hF : Wf.heap[g]? = some (.cells (bigC s d) 132 (0, 0)) := by rw [← hWf]; exact big_store hCh.out
      have hSf : Two w m a n b Wf := by rw [← hWf]; exact Two.store hSn hgw
      clear hWf y0 z0 y1 z1 y2 z2 y3 z3 y4 z4 y5 z5 y6 z6
      refine hK.out _ _ hSf (fun _ => ?_)
      clear hK K
      refine wpAnyH_done (by kernel_rfl) ?_ _
      have hbf := hSf.2.2
      clear hSf
      have e0 : Wf.cell? ⟨g, 0, none⟩ = some (Value.bool s) := blk_cell hF 0
      have e1 : Wf.cell? ⟨g, 1, none⟩ = some (Value.int .i64 (d 0)) := blk_cell hF 1
      have e2 : Wf.cell? ⟨g, 2, none⟩ = some (Value.int .i64 (d 1)) := blk_cell hF 2
      have e3 : Wf.cell? ⟨g, 3, none⟩ = some (Value.int .i64 (d 2)) := blk_cell hF 3
      have e4 : Wf.cell? ⟨g, 4, none⟩ = some (Value.int .i64 (d 3)) := blk_cell hF 4
      have e5 : Wf.cell? ⟨g, 5, none⟩ = some (Value.int .i64 (d 4)) := blk_cell hF 5
      have e6 : Wf.cell? ⟨g, 6, none⟩ = some (Value.int .i64 (d 5)) := blk_cell hF 6
      have hFh := Lib.hid hF
      clear hF
      go_wp2_with fail
      refine (HZ.out _).mono ?_
      rintro e w11 ⟨rfl, hb11⟩
      have hF2 := (hb11.block g (blk_lt hFh.out)).trans hFh.out
      have hbl2 := below_then hbf hbf.size hb11
      clear e0 e1 e2 e3 e4 e5 e6 hb11
      have e0 : w11.cell? ⟨g, 0, none⟩ = some (Value.bool s) := blk_cell hF2 0
      clear hF2
      by_cases hz0 : x - y = 0
      · have hz1 : decide (x - y = 0) = true := decide_eq_true hz0
        have HQ : Hid (z = 0) := Lib.hid (by rw [← Hz.out]; unfold cmp; rw [if_pos hz0])
        clear hz0
        go_wp2_with fail
        go_ret
        exact ⟨by rw [HQ.out]; rfl, hbl2⟩
      · have hz1 : decide (x - y = 0) = false := decide_eq_false hz0
        by_cases hs0 : x - y < 0
        · have hs1 : s = true := by rw [← Hs.out]; exact decide_eq_true hs0
          have HQ : Hid (z = -1) := Lib.hid (by rw [← Hz.out]; unfold cmp; rw [if_neg hz0, if_pos hs0])
          subst hs1
          clear hz0 hs0
          go_wp2_with fail
          go_ret
          exact ⟨by rw [HQ.out]; rfl, hbl2⟩
        · have hs1 : s = false := by rw [← Hs.out]; exact decide_eq_false hs0
          have HQ : Hid (z = 1) := Lib.hid (by rw [← Hz.out]; unfold cmp; rw [if_neg hz0, if_neg hs0])
          subst hs1
          clear hz0 hs0
          go_wp2_with fail
          go_ret
          exact ⟨by rw [HQ.out]; rfl, hbl2⟩
    · go_simp
      have hSn := hS9.alloc (.cells #[.bool false, .int .i64 0, .int .i64 0, .int .i64 0, .int .i64 0, .int .i64 0, .int .i64 0] 132)
      have hC := heap_alloc_new w9 (.cells (bigC false big0) 132)
      have hgw := blk_lt hS9.2.1
      generalize hWn : World.alloc w9 _ = Wn at hSn ⊢
      rw [show World.alloc w9 (.cells (bigC false big0) 132) = Wn from hWn] at hC
      clear hWn
      generalize w9.heap.size = g at hC hgw ⊢
      refine hK.out _ _ hSn (fun _ => ?_)
      clear hK K
      refine wpAnyH_ready (rs := [3]) (by kernel_rfl) (by simp) ?_
      refine AllReadyH.cons rfl (fun K hK => ?_) AllReadyH.nil
      go_simp
      go_at_call 95
      refine (HA.out _).mono ?_
      rintro e w10 ⟨he, hb⟩
      obtain rfl : e = .returned (.agg #[.bool s, .int .i64 (d 0), .int .i64 (d 1), .int .i64 (d 2), .int .i64 (d 3), .int .i64 (d 4), .int .i64 (d 5)]) := he
      have hS10 := hSn.below hb
      have hC := (hb.block _ (blk_lt hC)).trans hC
      clear hb
      go_simp
      refine hK.out _ _ hS10 (fun _ => ?_)
      clear hK K
      refine wpAnyH_ready (rs := [5]) (by kernel_rfl) (by simp) ?_
      refine AllReadyH.cons rfl (fun K hK => ?_) AllReadyH.nil
      have y0 : w10.cell? ⟨g, 0, none⟩ = some (Value.bool false) := blk_cell hC 0
      have y1 : w10.cell? ⟨g, 1, none⟩ = some (Value.int .i64 0) := blk_cell hC 1
      have y2 : w10.cell? ⟨g, 2, none⟩ = some (Value.int .i64 0) := blk_cell hC 2
      have y3 : w10.cell? ⟨g, 3, none⟩ = some (Value.int .i64 0) := blk_cell hC 3
      have y4 : w10.cell? ⟨g, 4, none⟩ = some (Value.int .i64 0) := blk_cell hC 4
      have y5 : w10.cell? ⟨g, 5, none⟩ = some (Value.int .i64 0) := blk_cell hC 5
      have y6 : w10.cell? ⟨g, 6, none⟩ = some (Value.int .i64 0) := blk_cell hC 6
      have z0 : w10.frozen? ⟨g, 0, none⟩ = false := blk_frozen hC 0
      have z1 : w10.frozen? ⟨g, 1, none⟩ = false := blk_frozen hC 1
      have z2 : w10.frozen? ⟨g, 2, none⟩ = false := blk_frozen hC 2
      have z3 : w10.frozen? ⟨g, 3, none⟩ = false := blk_frozen hC 3
      have z4 : w10.frozen? ⟨g, 4, none⟩ = false := blk_frozen hC 4
      have z5 : w10.frozen? ⟨g, 5, none⟩ = false := blk_frozen hC 5
      have z6 : w10.frozen? ⟨g, 6, none⟩ = false := blk_frozen hC 6
      have hCh := Lib.hid hC
      clear hC
      go_simp
      generalize hWf : World.setCell _ ⟨g, 6, none⟩ _ = Wf
      have hF : Wf.heap[g]? = some (.cells (bigC s d) 132 (0, 0)) := by rw [← hWf]; exact big_store hCh.out
      have hSf : Two w m a n b Wf := by rw [← hWf]; exact Two.store hS10 hgw
      clear hWf y0 z0 y1 z1 y2 z2 y3 z3 y4 z4 y5 z5 y6 z6
      refine hK.out _ _ hSf (fun _ => ?_)
      clear hK K
      refine wpAnyH_done (by kernel_rfl) ?_ _
      have hbf := hSf.2.2
      clear hSf
      have e0 : Wf.cell? ⟨g, 0, none⟩ = some (Value.bool s) := blk_cell hF 0
      have e1 : Wf.cell? ⟨g, 1, none⟩ = some (Value.int .i64 (d 0)) := blk_cell hF 1
      have e2 : Wf.cell? ⟨g, 2, none⟩ = some (Value.int .i64 (d 1)) := blk_cell hF 2
      have e3 : Wf.cell? ⟨g, 3, none⟩ = some (Value.int .i64 (d 2)) := blk_cell hF 3
      have e4 : Wf.cell? ⟨g, 4, none⟩ = some (Value.int .i64 (d 3)) := blk_cell hF 4
      have e5 : Wf.cell? ⟨g, 5, none⟩ = some (Value.int .i64 (d 4)) := blk_cell hF 5
      have e6 : Wf.cell? ⟨g, 6, none⟩ = some (Value.int .i64 (d 5)) := blk_cell hF 6
      have hFh := Lib.hid hF
      clear hF
      go_wp2_with fail
      refine (HZ.out _).mono ?_
      rintro e w11 ⟨rfl, hb11⟩
      have hF2 := (hb11.block g (blk_lt hFh.out)).trans hFh.out
      have hbl2 := below_then hbf hbf.size hb11
      clear e0 e1 e2 e3 e4 e5 e6 hb11
      have e0 : w11.cell? ⟨g, 0, none⟩ = some (Value.bool s) := blk_cell hF2 0
      clear hF2
      by_cases hz0 : x - y = 0
      · have hz1 : decide (x - y = 0) = true := decide_eq_true hz0
        have HQ : Hid (z = 0) := Lib.hid (by rw [← Hz.out]; unfold cmp; rw [if_pos hz0])
        clear hz0
        go_wp2_with fail
        go_ret
        exact ⟨by rw [HQ.out]; rfl, hbl2⟩
      · have hz1 : decide (x - y = 0) = false := decide_eq_false hz0
        by_cases hs0 : x - y < 0
        · have hs1 : s = true := by rw [← Hs.out]; exact decide_eq_true hs0
          have HQ : Hid (z = -1) := Lib.hid (by rw [← Hz.out]; unfold cmp; rw [if_neg hz0, if_pos hs0])
          subst hs1
          clear hz0 hs0
          go_wp2_with fail
          go_ret
          exact ⟨by rw [HQ.out]; rfl, hbl2⟩
        · have hs1 : s = false := by rw [← Hs.out]; exact decide_eq_false hs0
          have HQ : Hid (z = 1) := Lib.hid (by rw [← Hz.out]; unfold cmp; rw [if_neg hz0, if_neg hs0])
          subst hs1
          clear hz0 hs0
          go_wp2_with fail
          go_ret
          exact ⟨by rw [HQ.out]; rfl, hbl2⟩
  · go_simp
    have hSn := hS.alloc (.cells #[.bool false, .int .i64 0, .int .i64 0, .int .i64 0, .int .i64 0, .int .i64 0, .int .i64 0] 132)
    have hC := heap_alloc_new W0 (.cells (bigC false big0) 132)
    have hgw := blk_lt hS.2.1
    generalize hWn : World.alloc W0 _ = Wn at hSn ⊢
    rw [show World.alloc W0 (.cells (bigC false big0) 132) = Wn from hWn] at hC
    clear hWn
    generalize W0.heap.size = g at hC hgw ⊢
    refine hK.out _ _ hSn (fun _ => ?_)
    clear hK K
    refine wpAnyH_ready (rs := [2]) (by kernel_rfl) (by simp) ?_
    refine AllReadyH.cons rfl (fun K hK => ?_) AllReadyH.nil
    go_simp
    go_at_call 97
    refine (HN.out _).mono ?_
    rintro e w9 ⟨he, hb⟩
    obtain rfl : e = .returned (.agg #[.bool n', .int .i64 (b' 0), .int .i64 (b' 1), .int .i64 (b' 2), .int .i64 (b' 3), .int .i64 (b' 4), .int .i64 (b' 5)]) := he
    have hS9 := hSn.below hb
    have hC := (hb.block _ (blk_lt hC)).trans hC
    clear hb
    go_simp
    refine hK.out _ _ hS9 (fun _ => ?_)
    clear hK K
    refine wpAnyH_ready (rs := [3]) (by kernel_rfl) (by simp) ?_
    refine AllReadyH.cons rfl (fun K hK => ?_) AllReadyH.nil
    go_simp
    go_at_call 95
    refine (HA.out _).mono ?_
    rintro e w10 ⟨he, hb⟩
    obtain rfl : e = .returned (.agg #[.bool s, .int .i64 (d 0), .int .i64 (d 1), .int .i64 (d 2), .int .i64 (d 3), .int .i64 (d 4), .int .i64 (d 5)]) := he
    have hS10 := hS9.below hb
    have hC := (hb.block _ (blk_lt hC)).trans hC
    clear hb
    go_simp
    refine hK.out _ _ hS10 (fun _ => ?_)
    clear hK K
    refine wpAnyH_ready (rs := [5]) (by kernel_rfl) (by simp) ?_
    refine AllReadyH.cons rfl (fun K hK => ?_) AllReadyH.nil
    have y0 : w10.cell? ⟨g, 0, none⟩ = some (Value.bool false) := blk_cell hC 0
    have y1 : w10.cell? ⟨g, 1, none⟩ = some (Value.int .i64 0) := blk_cell hC 1
    have y2 : w10.cell? ⟨g, 2, none⟩ = some (Value.int .i64 0) := blk_cell hC 2
    have y3 : w10.cell? ⟨g, 3, none⟩ = some (Value.int .i64 0) := blk_cell hC 3
    have y4 : w10.cell? ⟨g, 4, none⟩ = some (Value.int .i64 0) := blk_cell hC 4
    have y5 : w10.cell? ⟨g, 5, none⟩ = some (Value.int .i64 0) := blk_cell hC 5
    have y6 : w10.cell? ⟨g, 6, none⟩ = some (Value.int .i64 0) := blk_cell hC 6
    have z0 : w10.frozen? ⟨g, 0, none⟩ = false := blk_frozen hC 0
    have z1 : w10.frozen? ⟨g, 1, none⟩ = false := blk_frozen hC 1
    have z2 : w10.frozen? ⟨g, 2, none⟩ = false := blk_frozen hC 2
    have z3 : w10.frozen? ⟨g, 3, none⟩ = false := blk_frozen hC 3
    have z4 : w10.frozen? ⟨g, 4, none⟩ = false := blk_frozen hC 4
    have z5 : w10.frozen? ⟨g, 5, none⟩ = false := blk_frozen hC 5
    have z6 : w10.frozen? ⟨g, 6, none⟩ = false := blk_frozen hC 6
    have hCh := Lib.hid hC
    clear hC
    go_simp
    generalize hWf : World.setCell _ ⟨g, 6, none⟩ _ = Wf
    have hF : Wf.heap[g]? = some (.cells (bigC s d) 132 (0, 0)) := by rw [← hWf]; exact big_store hCh.out
    have hSf : Two w m a n b Wf := by rw [← hWf]; exact Two.store hS10 hgw
    clear hWf y0 z0 y1 z1 y2 z2 y3 z3 y4 z4 y5 z5 y6 z6
    refine hK.out _ _ hSf (fun _ => ?_)
    clear hK K
    refine wpAnyH_done (by kernel_rfl) ?_ _
    have hbf := hSf.2.2
    clear hSf
    have e0 : Wf.cell? ⟨g, 0, none⟩ = some (Value.bool s) := blk_cell hF 0
    have e1 : Wf.cell? ⟨g, 1, none⟩ = some (Value.int .i64 (d 0)) := blk_cell hF 1
    have e2 : Wf.cell? ⟨g, 2, none⟩ = some (Value.int .i64 (d 1)) := blk_cell hF 2
    have e3 : Wf.cell? ⟨g, 3, none⟩ = some (Value.int .i64 (d 2)) := blk_cell hF 3
    have e4 : Wf.cell? ⟨g, 4, none⟩ = some (Value.int .i64 (d 3)) := blk_cell hF 4
    have e5 : Wf.cell? ⟨g, 5, none⟩ = some (Value.int .i64 (d 4)) := blk_cell hF 5
    have e6 : Wf.cell? ⟨g, 6, none⟩ = some (Value.int .i64 (d 5)) := blk_cell hF 6
    have hFh := Lib.hid hF
    clear hF
    go_wp2_with fail
    refine (HZ.out _).mono ?_
    rintro e w11 ⟨rfl, hb11⟩
    have hF2 := (hb11.block g (blk_lt hFh.out)).trans hFh.out
    have hbl2 := below_then hbf hbf.size hb11
    clear e0 e1 e2 e3 e4 e5 e6 hb11
    have e0 : w11.cell? ⟨g, 0, none⟩ = some (Value.bool s) := blk_cell hF2 0
    clear hF2
    by_cases hz0 : x - y = 0
    · have hz1 : decide (x - y = 0) = true := decide_eq_true hz0
      have HQ : Hid (z = 0) := Lib.hid (by rw [← Hz.out]; unfold cmp; rw [if_pos hz0])
      clear hz0
      go_wp2_with fail
      go_ret
      exact ⟨by rw [HQ.out]; rfl, hbl2⟩
    · have hz1 : decide (x - y = 0) = false := decide_eq_false hz0
      by_cases hs0 : x - y < 0
      · have hs1 : s = true := by rw [← Hs.out]; exact decide_eq_true hs0
        have HQ : Hid (z = -1) := Lib.hid (by rw [← Hz.out]; unfold cmp; rw [if_neg hz0, if_pos hs0])
        subst hs1
        clear hz0 hs0
        go_wp2_with fail
        go_ret
        exact ⟨by rw [HQ.out]; rfl, hbl2⟩
      · have hs1 : s = false := by rw [← Hs.out]; exact decide_eq_false hs0
        have HQ : Hid (z = 1) := Lib.hid (by rw [← Hz.out]; unfold cmp; rw [if_neg hz0, if_neg hs0])
        subst hs1
        clear hz0 hs0
        go_wp2_with fail
        go_ret
        exact ⟨by rw [HQ.out]; rfl, hbl2⟩
end Go.Proofs.Ytlkdehflipfpbaa.big
namespace Go.Proofs.Ytlkdehflipfpbaa.big
open Go.RowKit Go.Proofs.YtlkdehflipfpbaaW.PrintWords
theorem int_neg (M a0 a1 x : Int) (h0 : a0 = M % 4294967296) (h1 : a1 = M / 4294967296 % 4294967296) (hM : M = -x) (hx : -9223372036854775808 ≤ x) (hn : x < 0) :
    wrap64 (wrap64 (-wrap64 (wrap64 (wrap64 (a1 * 4294967296) + a0) - 1)) - 1) = x := by
  have h : a1 * 4294967296 + a0 = -x := by omega
  clear h1 hM
  unfold wrap64
  omega
theorem int_pos (M a0 a1 x : Int) (h0 : a0 = M % 4294967296) (h1 : a1 = M / 4294967296 % 4294967296) (hM : M = x) (hx : x ≤ 9223372036854775807) (hn : 0 ≤ x) :
    wrap64 (wrap64 (a1 * 4294967296) + a0) = x := by
  have h : a1 * 4294967296 + a0 = x := by omega
  clear h1 hM
  unfold wrap64
  omega
/-- A number lies at g. -/
def One (w : World) (m : Bool) (a : Nat → Int) (W : World) : Prop := W.heap[w.heap.size]? = some (.cells (bigC m a) 132 (0, 0)) ∧ Below w.heap.size w W
section
variable {w W W' : World} {m : Bool} {a : Nat → Int}
theorem One.below (h : One w m a W) (hb : Below W.heap.size W W') : One w m a W' :=
  ⟨(hb.block _ (blk_lt h.1)).trans h.1, below_then h.2 h.2.size hb⟩
theorem One.drew (h : One w m a W) : One w m a W.drew := ⟨h.1, below_drew h.2⟩
theorem One.all (h : One w m a W) : One w m a W ∧ W.cell? ⟨w.heap.size, 0, none⟩ = some (Value.bool m) ∧ W.cell? ⟨w.heap.size, 1, none⟩ = some (Value.int .i64 (a 0)) ∧ W.cell? ⟨w.heap.size, 2, none⟩ = some (Value.int .i64 (a 1)) ∧ W.cell? ⟨w.heap.size, 3, none⟩ = some (Value.int .i64 (a 2)) ∧ W.cell? ⟨w.heap.size, 4, none⟩ = some (Value.int .i64 (a 3)) ∧ W.cell? ⟨w.heap.size, 5, none⟩ = some (Value.int .i64 (a 4)) ∧ W.cell? ⟨w.heap.size, 6, none⟩ = some (Value.int .i64 (a 5)) := ⟨h, blk_cell h.1 0, blk_cell h.1 1, blk_cell h.1 2, blk_cell h.1 3, blk_cell h.1 4, blk_cell h.1 5, blk_cell h.1 6⟩
end
set_option maxRecDepth 100000 in
set_option maxHeartbeats 2000000 in
theorem intV (x : Int) (h : mag x < 3138550867693340381917894711603833208051177722232017256448) (w : World) :
    Calls Try.prog 124 #[.agg (bigN x)] w fun e w' => (if -9223372036854775808 ≤ x ∧ x ≤ 9223372036854775807 then e = .returned (.tuple #[.int .i64 x, .bool true]) else e = .returned (.tuple #[.int .i64 0, .bool false])) ∧ Below w.heap.size w w' := by
  have hxm : 0 ≤ mag x := by unfold mag; split <;> omega
  have HM := Lib.hid (ofV 9223372036854775807 (by omega))
  have HL := Lib.hid (ofV (-9223372036854775808) (by omega))
  obtain ⟨d1, hd1⟩ : ∃ d1, dgs (mag 9223372036854775807) = d1 := ⟨_, rfl⟩
  obtain ⟨d2, hd2⟩ : ∃ d2, dgs (mag (-9223372036854775808)) = d2 := ⟨_, rfl⟩
  rw [show bigN 9223372036854775807 = bigC false d1 by unfold bigN; rw [hd1]; rfl] at HM
  rw [show bigN (-9223372036854775808) = bigC true d2 by unfold bigN; rw [hd2]; rfl] at HL
  have hC1 := fun w => compareV x 9223372036854775807 (by unfold mag at h ⊢; split <;> omega) w
  have hC2 := fun w => compareV x (-9223372036854775808) (by unfold mag at h ⊢; split <;> omega) w
  rw [show bigN 9223372036854775807 = bigC false d1 by unfold bigN; rw [hd1]; rfl] at hC1
  rw [show bigN (-9223372036854775808) = bigC true d2 by unfold bigN; rw [hd2]; rfl] at hC2
  obtain ⟨m, hm⟩ : ∃ m, decide (x < 0) = m := ⟨_, rfl⟩
  obtain ⟨M, hM⟩ : ∃ M, mag x = M := ⟨_, rfl⟩
  obtain ⟨a, ha⟩ : ∃ a, dgs M = a := ⟨_, rfl⟩
  have hbx : bigN x = bigC m a := by unfold bigN; rw [hm, hM, ha]
  rw [hbx] at hC1 hC2 ⊢
  have ha0 : a 0 = M % 4294967296 := by rw [← ha]; rfl
  have ha1 : a 1 = M / 4294967296 % 4294967296 := by rw [← ha]; rfl
  have HC1 := Lib.hid hC1
  have HC2 := Lib.hid hC2
  have Ha0 := Lib.hid ha0
  have Ha1 := Lib.hid ha1
  have HMm := Lib.hid hM
  have Hm := Lib.hid hm
  clear hd1 hd2 hC1 hC2 ha hbx ha0 ha1 hM hm
  have hT0 : One w m a (w.alloc (.cells (bigC m a) 132)) := ⟨heap_alloc_new w _, (Below.refl _ w).alloc (Nat.le_refl _) _⟩
  have HT0 := Lib.hid hT0
  clear hT0
  by_cases hbig : x > 9223372036854775807
  · rw [show (fun (e : Ending) (w' : World) => (if -9223372036854775808 ≤ x ∧ x ≤ 9223372036854775807 then e = .returned (.tuple #[.int .i64 x, .bool true]) else e = .returned (.tuple #[.int .i64 0, .bool false])) ∧ Below w.heap.size w w') = fun e w' => e = .returned (.tuple #[.int .i64 0, .bool false]) ∧ Below w.heap.size w w' from by
      funext e w'
      rw [if_neg (by omega)]]
    rw [show cmp x 9223372036854775807 = 1 from by unfold cmp; rw [if_neg (by omega), if_neg (by omega)]] at HC1
    clear hbig hxm h
    go_enter Try.func124, Try.ntmps124
    go_wp2_with fail
    refine wp_region_held_drew (S := One w m a) (by kernel_rfl) HT0.out.drew (fun hS => ?_)
    refine wpAnyH_take (i := 0) (v := .agg #[.bool m, .int .i64 (a 0), .int .i64 (a 1), .int .i64 (a 2), .int .i64 (a 3), .int .i64 (a 4), .int .i64 (a 5)]) rfl (by kernel_rfl) (by kernel_rfl) (by kernel_rfl) (fun _ _ _ h => h) (Or.inl ⟨by rfl, ?_⟩) hS ?_
    · intro W hW
      obtain ⟨-, h0, h1, h2, h3, h4, h5, h6⟩ := hW.all
      clear hW
      go_simp
    refine wpAnyH_ready (rs := [1]) (by kernel_rfl) (by simp) ?_
    refine AllReadyH.cons rfl (fun K hK => ?_) AllReadyH.nil
    go_simp
    go_at_call 96
    refine (HM.out _).mono ?_
    rintro e w9 ⟨he, hb⟩
    obtain rfl : e = .returned (.agg #[.bool false, .int .i64 (d1 0), .int .i64 (d1 1), .int .i64 (d1 2), .int .i64 (d1 3), .int .i64 (d1 4), .int .i64 (d1 5)]) := he
    replace hS := hS.below hb
    clear hb
    go_simp
    refine hK.out _ _ hS (fun _ => ?_)
    clear hK K
    refine wpAnyH_ready (rs := [2]) (by kernel_rfl) (by simp) ?_
    refine AllReadyH.cons rfl (fun K hK => ?_) AllReadyH.nil
    go_simp
    go_at_call 127
    refine (HC1.out _).mono ?_
    rintro e w9 ⟨rfl, hb⟩
    replace hS := hS.below hb
    clear hb
    go_simp
    refine hK.out _ _ hS (fun _ => ?_)
    clear hK K
    refine wpAnyH_ready (rs := [3]) (by kernel_rfl) (by simp) ?_
    refine AllReadyH.cons rfl (fun K hK => ?_) AllReadyH.nil
    go_simp
    refine hK.out _ _ hS (fun _ => ?_)
    clear hK K
    refine wpAnyH_ready (rs := [4]) (by kernel_rfl) (by simp) ?_
    refine AllReadyH.cons rfl (fun K hK => ?_) AllReadyH.nil
    go_simp
    refine hK.out _ _ hS (fun _ => ?_)
    clear hK K
    refine wpAnyH_take (i := 5) (v := undef) rfl (by kernel_rfl) (by kernel_rfl) (by kernel_rfl) (fun _ _ _ h => h) (Or.inr ⟨by rfl, rfl⟩) hS ?_
    refine wpAnyH_take (i := 6) (v := undef) rfl (by kernel_rfl) (by kernel_rfl) (by kernel_rfl) (fun _ _ _ h => h) (Or.inr ⟨by rfl, rfl⟩) hS ?_
    refine wpAnyH_take (i := 7) (v := undef) rfl (by kernel_rfl) (by kernel_rfl) (by kernel_rfl) (fun _ _ _ h => h) (Or.inr ⟨by rfl, rfl⟩) hS ?_
    refine wpAnyH_take (i := 8) (v := undef) rfl (by kernel_rfl) (by kernel_rfl) (by kernel_rfl) (fun _ _ _ h => h) (Or.inr ⟨by rfl, rfl⟩) hS ?_
    refine wpAnyH_ready (rs := [9]) (by kernel_rfl) (by simp) ?_
    refine AllReadyH.cons rfl (fun K hK => ?_) AllReadyH.nil
    go_simp
    refine hK.out _ _ hS (fun _ => ?_)
    clear hK K
    refine wpAnyH_done (by kernel_rfl) ?_ _
    go_wp2_with fail
    go_ret2
    exact ⟨rfl, hS.2⟩
  · obtain ⟨c1, hc1⟩ : ∃ c1, cmp x 9223372036854775807 = c1 := ⟨_, rfl⟩
    have hd1 : decide (0 < c1) = false := decide_eq_false (by rw [← hc1]; unfold cmp; split <;> (try split) <;> omega)
    rw [hc1] at HC1
    clear hc1
    by_cases hsm : x < -9223372036854775808
    · rw [show (fun (e : Ending) (w' : World) => (if -9223372036854775808 ≤ x ∧ x ≤ 9223372036854775807 then e = .returned (.tuple #[.int .i64 x, .bool true]) else e = .returned (.tuple #[.int .i64 0, .bool false])) ∧ Below w.heap.size w w') = fun e w' => e = .returned (.tuple #[.int .i64 0, .bool false]) ∧ Below w.heap.size w w' from by
        funext e w'
        rw [if_neg (by omega)]]
      rw [show cmp x (-9223372036854775808) = -1 from by unfold cmp; rw [if_neg (by omega), if_pos (by omega)]] at HC2
      clear hbig hsm hxm h
      go_enter Try.func124, Try.ntmps124
      go_wp2_with fail
      refine wp_region_held_drew (S := One w m a) (by kernel_rfl) HT0.out.drew (fun hS => ?_)
      refine wpAnyH_take (i := 0) (v := .agg #[.bool m, .int .i64 (a 0), .int .i64 (a 1), .int .i64 (a 2), .int .i64 (a 3), .int .i64 (a 4), .int .i64 (a 5)]) rfl (by kernel_rfl) (by kernel_rfl) (by kernel_rfl) (fun _ _ _ h => h) (Or.inl ⟨by rfl, ?_⟩) hS ?_
      · intro W hW
        obtain ⟨-, h0, h1, h2, h3, h4, h5, h6⟩ := hW.all
        clear hW
        go_simp
      refine wpAnyH_ready (rs := [1]) (by kernel_rfl) (by simp) ?_
      refine AllReadyH.cons rfl (fun K hK => ?_) AllReadyH.nil
      go_simp
      go_at_call 96
      refine (HM.out _).mono ?_
      rintro e w9 ⟨he, hb⟩
      obtain rfl : e = .returned (.agg #[.bool false, .int .i64 (d1 0), .int .i64 (d1 1), .int .i64 (d1 2), .int .i64 (d1 3), .int .i64 (d1 4), .int .i64 (d1 5)]) := he
      replace hS := hS.below hb
      clear hb
      go_simp
      refine hK.out _ _ hS (fun _ => ?_)
      clear hK K
      refine wpAnyH_ready (rs := [2]) (by kernel_rfl) (by simp) ?_
      refine AllReadyH.cons rfl (fun K hK => ?_) AllReadyH.nil
      go_simp
      go_at_call 127
      refine (HC1.out _).mono ?_
      rintro e w9 ⟨rfl, hb⟩
      replace hS := hS.below hb
      clear hb
      go_simp
      refine hK.out _ _ hS (fun _ => ?_)
      clear hK K
      refine wpAnyH_ready (rs := [3]) (by kernel_rfl) (by simp) ?_
      refine AllReadyH.cons rfl (fun K hK => ?_) AllReadyH.nil
      go_simp
      refine hK.out _ _ hS (fun _ => ?_)
      clear hK K
      refine wpAnyH_ready (rs := [4]) (by kernel_rfl) (by simp) ?_
      refine AllReadyH.cons rfl (fun K hK => ?_) AllReadyH.nil
      go_simp
      refine hK.out _ _ hS (fun _ => ?_)
      clear hK K
      refine wpAnyH_take (i := 5) (v := .agg #[.bool m, .int .i64 (a 0), .int .i64 (a 1), .int .i64 (a 2), .int .i64 (a 3), .int .i64 (a 4), .int .i64 (a 5)]) rfl (by kernel_rfl) (by kernel_rfl) (by kernel_rfl) (fun _ _ _ h => h) (Or.inl ⟨by rfl, ?_⟩) hS ?_
      · intro W hW
        obtain ⟨-, h0, h1, h2, h3, h4, h5, h6⟩ := hW.all
        clear hW
        go_simp
      refine wpAnyH_ready (rs := [6]) (by kernel_rfl) (by simp) ?_
      refine AllReadyH.cons rfl (fun K hK => ?_) AllReadyH.nil
      go_simp
      go_at_call 96
      refine (HL.out _).mono ?_
      rintro e w9 ⟨he, hb⟩
      obtain rfl : e = .returned (.agg #[.bool true, .int .i64 (d2 0), .int .i64 (d2 1), .int .i64 (d2 2), .int .i64 (d2 3), .int .i64 (d2 4), .int .i64 (d2 5)]) := he
      replace hS := hS.below hb
      clear hb
      go_simp
      refine hK.out _ _ hS (fun _ => ?_)
      clear hK K
      refine wpAnyH_ready (rs := [7]) (by kernel_rfl) (by simp) ?_
      refine AllReadyH.cons rfl (fun K hK => ?_) AllReadyH.nil
      go_simp
      go_at_call 127
      refine (HC2.out _).mono ?_
      rintro e w9 ⟨rfl, hb⟩
      replace hS := hS.below hb
      clear hb
      go_simp
      refine hK.out _ _ hS (fun _ => ?_)
      clear hK K
      refine wpAnyH_ready (rs := [8]) (by kernel_rfl) (by simp) ?_
      refine AllReadyH.cons rfl (fun K hK => ?_) AllReadyH.nil
      go_simp
      refine hK.out _ _ hS (fun _ => ?_)
      clear hK K
      refine wpAnyH_ready (rs := [9]) (by kernel_rfl) (by simp) ?_
      refine AllReadyH.cons rfl (fun K hK => ?_) AllReadyH.nil
      go_simp
      refine hK.out _ _ hS (fun _ => ?_)
      clear hK K
      refine wpAnyH_done (by kernel_rfl) ?_ _
      go_wp2_with fail
      go_ret2
      exact ⟨rfl, hS.2⟩
    · rw [show (fun (e : Ending) (w' : World) => (if -9223372036854775808 ≤ x ∧ x ≤ 9223372036854775807 then e = .returned (.tuple #[.int .i64 x, .bool true]) else e = .returned (.tuple #[.int .i64 0, .bool false])) ∧ Below w.heap.size w w') = fun e w' => e = .returned (.tuple #[.int .i64 x, .bool true]) ∧ Below w.heap.size w w' from by
        funext e w'
        rw [if_pos (by omega)]]
      obtain ⟨c2, hc2⟩ : ∃ c2, cmp x (-9223372036854775808) = c2 := ⟨_, rfl⟩
      have hd2 : decide (c2 < 0) = false := decide_eq_false (by rw [← hc2]; unfold cmp; split <;> (try split) <;> omega)
      rw [hc2] at HC2
      clear hc2
      have HX := Lib.hid (show -9223372036854775808 ≤ x ∧ x ≤ 9223372036854775807 by omega)
      clear hbig hsm hxm h
      go_enter Try.func124, Try.ntmps124
      go_wp2_with fail
      refine wp_region_held_drew (S := One w m a) (by kernel_rfl) HT0.out.drew (fun hS => ?_)
      refine wpAnyH_take (i := 0) (v := .agg #[.bool m, .int .i64 (a 0), .int .i64 (a 1), .int .i64 (a 2), .int .i64 (a 3), .int .i64 (a 4), .int .i64 (a 5)]) rfl (by kernel_rfl) (by kernel_rfl) (by kernel_rfl) (fun _ _ _ h => h) (Or.inl ⟨by rfl, ?_⟩) hS ?_
      · intro W hW
        obtain ⟨-, h0, h1, h2, h3, h4, h5, h6⟩ := hW.all
        clear hW
        go_simp
      refine wpAnyH_ready (rs := [1]) (by kernel_rfl) (by simp) ?_
      refine AllReadyH.cons rfl (fun K hK => ?_) AllReadyH.nil
      go_simp
      go_at_call 96
      refine (HM.out _).mono ?_
      rintro e w9 ⟨he, hb⟩
      obtain rfl : e = .returned (.agg #[.bool false, .int .i64 (d1 0), .int .i64 (d1 1), .int .i64 (d1 2), .int .i64 (d1 3), .int .i64 (d1 4), .int .i64 (d1 5)]) := he
      replace hS := hS.below hb
      clear hb
      go_simp
      refine hK.out _ _ hS (fun _ => ?_)
      clear hK K
      refine wpAnyH_ready (rs := [2]) (by kernel_rfl) (by simp) ?_
      refine AllReadyH.cons rfl (fun K hK => ?_) AllReadyH.nil
      go_simp
      go_at_call 127
      refine (HC1.out _).mono ?_
      rintro e w9 ⟨rfl, hb⟩
      replace hS := hS.below hb
      clear hb
      go_simp
      refine hK.out _ _ hS (fun _ => ?_)
      clear hK K
      refine wpAnyH_ready (rs := [3]) (by kernel_rfl) (by simp) ?_
      refine AllReadyH.cons rfl (fun K hK => ?_) AllReadyH.nil
      go_simp
      refine hK.out _ _ hS (fun _ => ?_)
      clear hK K
      refine wpAnyH_ready (rs := [4]) (by kernel_rfl) (by simp) ?_
      refine AllReadyH.cons rfl (fun K hK => ?_) AllReadyH.nil
      go_simp
      refine hK.out _ _ hS (fun _ => ?_)
      clear hK K
      refine wpAnyH_take (i := 5) (v := .agg #[.bool m, .int .i64 (a 0), .int .i64 (a 1), .int .i64 (a 2), .int .i64 (a 3), .int .i64 (a 4), .int .i64 (a 5)]) rfl (by kernel_rfl) (by kernel_rfl) (by kernel_rfl) (fun _ _ _ h => h) (Or.inl ⟨by rfl, ?_⟩) hS ?_
      · intro W hW
        obtain ⟨-, h0, h1, h2, h3, h4, h5, h6⟩ := hW.all
        clear hW
        go_simp
      refine wpAnyH_ready (rs := [6]) (by kernel_rfl) (by simp) ?_
      refine AllReadyH.cons rfl (fun K hK => ?_) AllReadyH.nil
      go_simp
      go_at_call 96
      refine (HL.out _).mono ?_
      rintro e w9 ⟨he, hb⟩
      obtain rfl : e = .returned (.agg #[.bool true, .int .i64 (d2 0), .int .i64 (d2 1), .int .i64 (d2 2), .int .i64 (d2 3), .int .i64 (d2 4), .int .i64 (d2 5)]) := he
      replace hS := hS.below hb
      clear hb
      go_simp
      refine hK.out _ _ hS (fun _ => ?_)
      clear hK K
      refine wpAnyH_ready (rs := [7]) (by kernel_rfl) (by simp) ?_
      refine AllReadyH.cons rfl (fun K hK => ?_) AllReadyH.nil
      go_simp
      go_at_call 127
      refine (HC2.out _).mono ?_
      rintro e w9 ⟨rfl, hb⟩
      replace hS := hS.below hb
      clear hb
      go_simp
      refine hK.out _ _ hS (fun _ => ?_)
      clear hK K
      refine wpAnyH_ready (rs := [8]) (by kernel_rfl) (by simp) ?_
      refine AllReadyH.cons rfl (fun K hK => ?_) AllReadyH.nil
      go_simp
      refine hK.out _ _ hS (fun _ => ?_)
      clear hK K
      refine wpAnyH_ready (rs := [9]) (by kernel_rfl) (by simp) ?_
      refine AllReadyH.cons rfl (fun K hK => ?_) AllReadyH.nil
      go_simp
      refine hK.out _ _ hS (fun _ => ?_)
      clear hK K
      refine wpAnyH_done (by kernel_rfl) ?_ _
      obtain ⟨-, h0, h1, h2, -⟩ := hS.all
      by_cases hneg : x < 0
      · have hmt : m = true := by rw [← Hm.out]; exact decide_eq_true hneg
        subst hmt
        have HN := Lib.hid hneg
        clear hneg
        have hv := int_neg M (a 0) (a 1) x Ha0.out Ha1.out (by rw [← HMm.out]; unfold mag; rw [if_pos HN.out]) HX.out.1 HN.out
        have Hv := Lib.hid hv
        clear hv
        go_wp2_with fail
        go_ret2
        exact ⟨congrArg (fun z => Ending.returned (.tuple #[.int .i64 z, .bool true])) Hv.out, hS.2⟩
      · have hmt : m = false := by rw [← Hm.out]; exact decide_eq_false hneg
        subst hmt
        have HN := Lib.hid hneg
        clear hneg
        have hv := int_pos M (a 0) (a 1) x Ha0.out Ha1.out (by rw [← HMm.out]; unfold mag; rw [if_neg HN.out]) HX.out.2 (by have := HN.out; omega)
        have Hv := Lib.hid hv
        clear hv
        go_wp2_with fail
        go_ret2
        exact ⟨congrArg (fun z => Ending.returned (.tuple #[.int .i64 z, .bool true])) Hv.out, hS.2⟩
/-- A number that stays at the ends. -/
def clamp (x : Int) : Int := if x < -9223372036854775808 then -9223372036854775808 else if x > 9223372036854775807 then 9223372036854775807 else x
def over (x : Int) : Bool := !(decide (-9223372036854775808 ≤ x ∧ x ≤ 9223372036854775807))
set_option maxRecDepth 100000 in
set_option maxHeartbeats 2000000 in
theorem endV (x : Int) (h : mag x < 3138550867693340381917894711603833208051177722232017256448) (w : World) :
    Calls Try.prog 112 #[.agg (bigN x)] w fun e w' => e = .returned (.tuple #[.int .i64 (clamp x), .bool (over x)]) ∧ Below w.heap.size w w' := by
  have HI := Lib.hid (fun w => intV x h w)
  obtain ⟨m, hm⟩ : ∃ m, decide (x < 0) = m := ⟨_, rfl⟩
  obtain ⟨a, ha⟩ : ∃ a, dgs (mag x) = a := ⟨_, rfl⟩
  have hbx : bigN x = bigC m a := by unfold bigN; rw [hm, ha]
  rw [hbx] at HI ⊢
  have hT0 : One w m a (w.alloc (.cells (bigC m a) 132)) := ⟨heap_alloc_new w _, (Below.refl _ w).alloc (Nat.le_refl _) _⟩
  obtain ⟨-, e0, e1, e2, e3, e4, e5, e6⟩ := hT0.all
  have HT0 := Lib.hid hT0
  have Hm := Lib.hid hm
  clear hT0 hm ha hbx h
  by_cases hin : -9223372036854775808 ≤ x ∧ x ≤ 9223372036854775807
  · rw [show clamp x = x from by unfold clamp; rw [if_neg (by omega), if_neg (by omega)], show over x = false from by unfold over; rw [decide_eq_true hin]; rfl]
    simp only [if_pos hin] at HI
    clear hin
    go_enter Try.func112, Try.ntmps112
    go_wp2_with fail
    refine (HI.out _).mono ?_
    rintro e w1 ⟨rfl, hb1⟩
    have hS := HT0.out.below hb1
    clear hb1
    go_wp2_with fail
    go_ret2
    exact ⟨rfl, hS.2⟩
  · simp only [if_neg hin] at HI
    rw [show over x = true from by unfold over; rw [decide_eq_false hin]; rfl]
    by_cases hneg : x < 0
    · rw [show clamp x = -9223372036854775808 from by unfold clamp; rw [if_pos (by omega)]]
      have hmt : m = true := by rw [← Hm.out]; exact decide_eq_true hneg
      subst hmt
      clear hin hneg
      go_enter Try.func112, Try.ntmps112
      go_wp2_with fail
      refine (HI.out _).mono ?_
      rintro e w1 ⟨rfl, hb1⟩
      have hS := HT0.out.below hb1
      clear hb1 e0 e1 e2 e3 e4 e5 e6
      obtain ⟨-, e0, -⟩ := hS.all
      go_wp2_with fail
      go_ret2
      exact ⟨rfl, hS.2⟩
    · rw [show clamp x = 9223372036854775807 from by unfold clamp; rw [if_neg (by omega), if_pos (by omega)]]
      have hmt : m = false := by rw [← Hm.out]; exact decide_eq_false hneg
      subst hmt
      clear hin hneg
      go_enter Try.func112, Try.ntmps112
      go_wp2_with fail
      refine (HI.out _).mono ?_
      rintro e w1 ⟨rfl, hb1⟩
      have hS := HT0.out.below hb1
      clear hb1 e0 e1 e2 e3 e4 e5 e6
      obtain ⟨-, e0, -⟩ := hS.all
      go_wp2_with fail
      go_ret2
      exact ⟨rfl, hS.2⟩
end Go.Proofs.Ytlkdehflipfpbaa.big
