import Derived.Test.YtlkdehflipfpbaaA7
namespace Go.Proofs.Ytlkdehflipfpbaa
open Go.RowKit Go.Proofs.YtlkdehflipfpbaaW.PrintWords

def okHead (f : Fr) : Prop := 0 ≤ f.kind ∧ f.kind ≤ 9 ∧ 0 ≤ f.src ∧ f.src ≤ 255 ∧ 0 ≤ f.tick ∧ f.tick < 140737488355328
def okFr (f : Fr) : Prop := okHead f ∧ f.nums.length ≤ 100 ∧ f.data.size ≤ 60000
def numsI (xs : List Int) : List Int := xs.flatMap fun x => beI x 8
def headI (f : Fr) : List Int := [165, f.kind, f.src] ++ beI f.tick 6 ++ [(f.nums.length : Int)]
def bodyI (f : Fr) : List Int := headI f ++ numsI f.nums ++ [(f.data.size : Int) / 256, (f.data.size : Int) % 256] ++ bytesOf f.data
def putB (f : Fr) : ByteArray := strOfNums (bodyI f) ++ strOfNums (beI (crc (strOfNums (bodyI f)).data.toList) 5)

theorem bytesOf_strOfNums (xs : List Int) (h : ∀ x ∈ xs, 0 ≤ x ∧ x < 256) : bytesOf (strOfNums xs) = xs := by
  unfold bytesOf
  rw [strOfNums_data, List.map_map]
  conv => rhs; rw [← List.map_id xs]
  apply List.map_congr_left
  intro x hx
  have := h x hx
  simp only [Function.comp, id]
  rw [UInt8.toNat_ofNat']
  omega
theorem beI_range (v : Int) (n : Nat) : ∀ x ∈ beI v n, 0 ≤ x ∧ x < 256 := by
  intro x hx
  simp only [beI, List.mem_map] at hx
  obtain ⟨j, _, rfl⟩ := hx
  unfold beAt
  omega
theorem beI_length (v : Int) (n : Nat) : (beI v n).length = n := by simp [beI]
theorem numsI_length (xs : List Int) : (numsI xs).length = 8 * xs.length := by
  induction xs with
  | nil => rfl
  | cons x xs ih => simp only [numsI, List.flatMap_cons, List.length_append, beI_length, List.length_cons] at ih ⊢; omega
theorem numsI_snoc (xs : List Int) (x : Int) : numsI (xs ++ [x]) = numsI xs ++ beI x 8 := by simp [numsI]

def PutBad (w : World) (e : Ending) (w' : World) : Prop := ∃ c : Int, c ≠ 0 ∧ e = .returned (.tuple #[.string ⟨#[]⟩, .int .i64 c]) ∧ Below w.heap.size w w'

set_option maxRecDepth 100000 in
set_option maxHeartbeats 1000000 in
theorem put_head_bad (f : Fr) (A : Option Addr) (n c : Nat) (w : World) (h : ¬ okHead f) :
    Calls Try.prog 9 #[.agg #[.int .i64 f.kind, .int .i64 f.src, .int .i64 f.tick, .slice A n c, .string f.data]] w (PutBad w) := by
  obtain ⟨kd, sr, tk, xs, dt⟩ := f
  dsimp only [okHead] at h ⊢
  have hB := Lib.hid (fun x : Array Value => (Below.refl _ w).alloc (Nat.le_refl _) (.cells x 26))
  by_cases h1 : tk < -140737488355328 ∨ 140737488355328 ≤ tk
  · have H := Lib.hid h
    clear h
    go_enter Try.func9, Try.ntmps9
    go_wp2_with fail
    refine (fixPut6c_calls tk h1 _).mono ?_
    rintro e w' ⟨rfl, rfl⟩
    clear h1
    go_wp2_with fail
    all_goals
      go_ret2
      exact ⟨1, by decide, rfl, hB.out _⟩
  · by_cases h2 : tk < 0
    · have H := Lib.hid h
      clear h
      go_enter Try.func9, Try.ntmps9
      go_wp2_with fail
      refine (fixPut6b_calls tk (by omega) h2 _).mono ?_
      rintro e w1 ⟨rfl, hb⟩
      have kf := (hb.block w.heap.size (by simp)).trans (heap_alloc_new w (.cells #[.int .i64 kd, .int .i64 sr, .int .i64 tk, .slice A n c, .string dt] 26))
      have hbw := below_then (hB.out _) (hB.out _).size hb
      have c0 : w1.cell? ⟨w.heap.size, 0, none⟩ = some (.int .i64 kd) := blk_cell kf 0
      have c1 : w1.cell? ⟨w.heap.size, 1, none⟩ = some (.int .i64 sr) := blk_cell kf 1
      have c2 : w1.cell? ⟨w.heap.size, 2, none⟩ = some (.int .i64 tk) := blk_cell kf 2
      have c3 : w1.cell? ⟨w.heap.size, 3, none⟩ = some (.slice A n c) := blk_cell kf 3
      have c4 : w1.cell? ⟨w.heap.size, 4, none⟩ = some (.string dt) := blk_cell kf 4
      go_wp2_with fail
      all_goals
        go_ret2
        exact ⟨1, by decide, rfl, hbw⟩
    · have hbad : kd < 0 ∨ 9 < kd ∨ sr < 0 ∨ 255 < sr := by omega
      clear h
      go_enter Try.func9, Try.ntmps9
      go_wp2_with fail
      refine (fixPut6_calls tk (by omega) (by omega) _).mono ?_
      rintro e w1 ⟨rfl, hb⟩
      have kf := (hb.block w.heap.size (by simp)).trans (heap_alloc_new w (.cells #[.int .i64 kd, .int .i64 sr, .int .i64 tk, .slice A n c, .string dt] 26))
      have hbw := below_then (hB.out _) (hB.out _).size hb
      have c0 : w1.cell? ⟨w.heap.size, 0, none⟩ = some (.int .i64 kd) := blk_cell kf 0
      have c1 : w1.cell? ⟨w.heap.size, 1, none⟩ = some (.int .i64 sr) := blk_cell kf 1
      have c2 : w1.cell? ⟨w.heap.size, 2, none⟩ = some (.int .i64 tk) := blk_cell kf 2
      have c3 : w1.cell? ⟨w.heap.size, 3, none⟩ = some (.slice A n c) := blk_cell kf 3
      have c4 : w1.cell? ⟨w.heap.size, 4, none⟩ = some (.string dt) := blk_cell kf 4
      rcases hbad with h | h | h | h
      · go_wp2_with fail
        go_ret2
        exact ⟨1, by decide, rfl, hbw⟩
      · go_wp2_with fail
        go_ret2
        exact ⟨1, by decide, rfl, hbw⟩
      · go_wp2_with fail
        all_goals
          go_ret2
          exact ⟨1, by decide, rfl, hbw⟩
      · go_wp2_with fail
        all_goals
          go_ret2
          exact ⟨1, by decide, rfl, hbw⟩
end Go.Proofs.Ytlkdehflipfpbaa
