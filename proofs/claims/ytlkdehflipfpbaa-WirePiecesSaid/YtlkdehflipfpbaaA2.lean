import Derived.Test.YtlkdehflipfpbaaA1
namespace Go.Proofs.Ytlkdehflipfpbaa
open Go.RowKit Go.Proofs.YtlkdehflipfpbaaW.PrintWords
theorem infoByte : (Try.prog.info? 5).map (fun i => (i.zero, i.size, i.bytes)) = some (some (.int .u8 0), 1, 1) := by kernel_rfl

/-- Byte j of a number of n bytes, the highest first. -/
def beAt (v : Int) (n j : Nat) : Int := v / 2 ^ (8 * (n - 1 - j)) % 256
def beI (v : Int) (n : Nat) : List Int := (List.range n).map (beAt v n)
/-- The same after k rounds: the last k are laid. -/
def beR (v : Int) (n k : Nat) : List Int := (List.range n).map fun j => if n - 1 - j < k then beAt v n j else 0
theorem beR_length (v : Int) (n k : Nat) : (beR v n k).length = n := by simp [beR]
theorem beR_zero (v : Int) (n : Nat) : beR v n 0 = List.replicate n 0 := by
  apply List.ext_getElem <;> simp [beR]
theorem beR_full (v : Int) (n : Nat) : beR v n n = beI v n := by
  apply List.ext_getElem
  · simp [beR, beI]
  · intro i h1 h2
    simp only [beR, beI, List.getElem_map, List.getElem_range]
    simp [beR] at h1
    rw [if_pos (by omega)]
theorem beR_succ (v : Int) (n k : Nat) (h : k < n) : (beR v n k).set (n - 1 - k) (v / 2 ^ (8 * k) % 256) = beR v n (k + 1) := by
  apply List.ext_getElem
  · simp [beR]
  · intro i h1 h2
    simp [beR] at h2
    simp only [beR, List.getElem_set, List.getElem_map, List.getElem_range]
    by_cases e : n - 1 - k = i
    · subst e
      rw [if_pos rfl, if_pos (by omega)]
      unfold beAt
      rw [show n - 1 - (n - 1 - k) = k from by omega]
    · rw [if_neg e]
      by_cases h3 : n - 1 - i < k
      · rw [if_pos h3, if_pos (by omega)]
      · rw [if_neg h3, if_neg (by omega)]

theorem own_at' {W : World} {base g n cap : Nat} {e : TypeId} {k : IntKind} {xs : List Int} (h : W.ownsRow base e 1 (.slice (some ⟨g, 0, none⟩) n cap) n (nums k xs)) (i : Nat) (h1 : i < n) :
    W.cell? ⟨g, i, none⟩ = some (.int k (xs.getD i 0)) ∧ W.frozen? ⟨g, i, none⟩ = false := by
  have := own_at h (i : Int) (by omega) (by omega)
  simpa [rd] using this

set_option maxRecDepth 100000 in
set_option maxHeartbeats 400000 in
theorem fixPut8_calls (v : Int) (w : World) : Calls Try.prog 37 #[.int .i64 v, .int .i64 8] w fun e w' => e = .returned (.tuple #[.string (strOfNums (beI v 8)), .int .i64 0]) ∧ Below w.heap.size w w' := by
  have hmk : ∀ W : World, (Instr.makeSlice 35 (.int .i64 8) (.int .i64 8)).run Try.prog W = .ok (.slice (some ⟨W.heap.size, 0, none⟩) 8 8) (W.alloc (.cells (madeCells #[.int .u8 0] 8) 5)) := print_make (P := Try.prog) 35 5 .u8 1 Try.underlying35 infoByte (by decide) 8 (by decide)
  skip
  go_enter Try.func37, Try.ntmps37
  go_wp2_with fail
  go_loopw [38] (fun i W => ∃ k : Nat, k ≤ 8 ∧ i = .int .i64 k ∧ W.ownsRow w.heap.size 5 1 (.slice (some ⟨w.heap.size, 0, none⟩) 8 8) 8 (nums .u8 (beR v 8 k)) ∧ Below w.heap.size w W) (fun i _ => 8 - (intOf i).toNat)
  case atStart => exact ⟨0, by omega, rfl, by rw [beR_zero]; exact own_made w w.heap.size _ .u8 8 (by omega) (by omega), (Below.refl _ _).alloc (Nat.le_refl _) _⟩
  case round =>
    obtain ⟨k, hk, rfl, ho, hb⟩ := hrel
    by_cases hlt : k < 8
    · have hfz := (own_at' ho (7 - k) (by omega)).2
      have hcz := (own_at' ho (7 - k) (by omega)).1
      have hst := own_store ho ((7 - k : Nat) : Int) (v / 2 ^ (8 * k) % 256)
      rw [Int.toNat_natCast] at hst
      have Hs : Hid ((beR v 8 k).set (7 - k) (v / 2 ^ (8 * k) % 256) = beR v 8 (k + 1)) := Lib.hid (beR_succ v 8 k (by omega))
      go_wp2_with fail
      go_roundw
      case rel => exact ⟨k + 1, by omega, by go_num, by rw [← Hs.out]; exact hst.1, hb.setCell (Nat.le_refl _) _⟩
      case measure => simp [intOf]; omega
    · have Hk : Hid (k = 8) := Lib.hid (by omega)
      have hcv := own_string (P := Try.prog) (src := 35) (dst := 9) Try.underlying35 Try.underlying5 Try.underlying9 ho
      rw [show beR v 8 k = beI v 8 from by rw [Hk.out]; exact beR_full v 8] at hcv
      go_wp2_with fail
      go_ret2
      exact ⟨rfl, hb⟩
set_option maxRecDepth 100000 in
set_option maxHeartbeats 400000 in
theorem fixPut6_calls (v : Int)(h0 : 0 ≤ v) (h1 : v < 140737488355328) (w : World) : Calls Try.prog 37 #[.int .i64 v, .int .i64 6] w fun e w' => e = .returned (.tuple #[.string (strOfNums (beI v 6)), .int .i64 0]) ∧ Below w.heap.size w w' := by
  have hmk : ∀ W : World, (Instr.makeSlice 35 (.int .i64 6) (.int .i64 6)).run Try.prog W = .ok (.slice (some ⟨W.heap.size, 0, none⟩) 6 6) (W.alloc (.cells (madeCells #[.int .u8 0] 6) 5)) := print_make (P := Try.prog) 35 5 .u8 1 Try.underlying35 infoByte (by decide) 6 (by decide)
  have hq : (v / 140737488355328 != 0) = false := bne_eq_false_iff_eq.2 (by omega)
  go_enter Try.func37, Try.ntmps37
  go_wp2_with fail
  go_loopw [38] (fun i W => ∃ k : Nat, k ≤ 6 ∧ i = .int .i64 k ∧ W.ownsRow w.heap.size 5 1 (.slice (some ⟨w.heap.size, 0, none⟩) 6 6) 6 (nums .u8 (beR v 6 k)) ∧ Below w.heap.size w W) (fun i _ => 6 - (intOf i).toNat)
  case atStart => exact ⟨0, by omega, rfl, by rw [beR_zero]; exact own_made w w.heap.size _ .u8 6 (by omega) (by omega), (Below.refl _ _).alloc (Nat.le_refl _) _⟩
  case round =>
    obtain ⟨k, hk, rfl, ho, hb⟩ := hrel
    by_cases hlt : k < 6
    · have hfz := (own_at' ho (5 - k) (by omega)).2
      have hcz := (own_at' ho (5 - k) (by omega)).1
      have hst := own_store ho ((5 - k : Nat) : Int) (v / 2 ^ (8 * k) % 256)
      rw [Int.toNat_natCast] at hst
      have Hs : Hid ((beR v 6 k).set (5 - k) (v / 2 ^ (8 * k) % 256) = beR v 6 (k + 1)) := Lib.hid (beR_succ v 6 k (by omega))
      go_wp2_with fail
      go_roundw
      case rel => exact ⟨k + 1, by omega, by go_num, by rw [← Hs.out]; exact hst.1, hb.setCell (Nat.le_refl _) _⟩
      case measure => simp [intOf]; omega
    · have Hk : Hid (k = 6) := Lib.hid (by omega)
      have hcv := own_string (P := Try.prog) (src := 35) (dst := 9) Try.underlying35 Try.underlying5 Try.underlying9 ho
      rw [show beR v 6 k = beI v 6 from by rw [Hk.out]; exact beR_full v 6] at hcv
      go_wp2_with fail
      go_ret2
      exact ⟨rfl, hb⟩
set_option maxRecDepth 100000 in
set_option maxHeartbeats 400000 in
theorem fixPut6b_calls (v : Int)(h0 : -140737488355328 ≤ v) (h1 : v < 0) (w : World) : Calls Try.prog 37 #[.int .i64 v, .int .i64 6] w fun e w' => e = .returned (.tuple #[.string (strOfNums (beI v 6)), .int .i64 0]) ∧ Below w.heap.size w w' := by
  have hmk : ∀ W : World, (Instr.makeSlice 35 (.int .i64 6) (.int .i64 6)).run Try.prog W = .ok (.slice (some ⟨W.heap.size, 0, none⟩) 6 6) (W.alloc (.cells (madeCells #[.int .u8 0] 6) 5)) := print_make (P := Try.prog) 35 5 .u8 1 Try.underlying35 infoByte (by decide) 6 (by decide)
  have hq : (v / 140737488355328 != -1) = false := bne_eq_false_iff_eq.2 (by omega)
  go_enter Try.func37, Try.ntmps37
  go_wp2_with fail
  go_loopw [38] (fun i W => ∃ k : Nat, k ≤ 6 ∧ i = .int .i64 k ∧ W.ownsRow w.heap.size 5 1 (.slice (some ⟨w.heap.size, 0, none⟩) 6 6) 6 (nums .u8 (beR v 6 k)) ∧ Below w.heap.size w W) (fun i _ => 6 - (intOf i).toNat)
  case atStart => exact ⟨0, by omega, rfl, by rw [beR_zero]; exact own_made w w.heap.size _ .u8 6 (by omega) (by omega), (Below.refl _ _).alloc (Nat.le_refl _) _⟩
  case round =>
    obtain ⟨k, hk, rfl, ho, hb⟩ := hrel
    by_cases hlt : k < 6
    · have hfz := (own_at' ho (5 - k) (by omega)).2
      have hcz := (own_at' ho (5 - k) (by omega)).1
      have hst := own_store ho ((5 - k : Nat) : Int) (v / 2 ^ (8 * k) % 256)
      rw [Int.toNat_natCast] at hst
      have Hs : Hid ((beR v 6 k).set (5 - k) (v / 2 ^ (8 * k) % 256) = beR v 6 (k + 1)) := Lib.hid (beR_succ v 6 k (by omega))
      go_wp2_with fail
      go_roundw
      case rel => exact ⟨k + 1, by omega, by go_num, by rw [← Hs.out]; exact hst.1, hb.setCell (Nat.le_refl _) _⟩
      case measure => simp [intOf]; omega
    · have Hk : Hid (k = 6) := Lib.hid (by omega)
      have hcv := own_string (P := Try.prog) (src := 35) (dst := 9) Try.underlying35 Try.underlying5 Try.underlying9 ho
      rw [show beR v 6 k = beI v 6 from by rw [Hk.out]; exact beR_full v 6] at hcv
      go_wp2_with fail
      go_ret2
      exact ⟨rfl, hb⟩
set_option maxRecDepth 100000 in
set_option maxHeartbeats 400000 in
theorem fixPut5_calls (v : Int)(h0 : 0 ≤ v) (h1 : v < 4294967296) (w : World) : Calls Try.prog 37 #[.int .i64 v, .int .i64 5] w fun e w' => e = .returned (.tuple #[.string (strOfNums (beI v 5)), .int .i64 0]) ∧ Below w.heap.size w w' := by
  have hmk : ∀ W : World, (Instr.makeSlice 35 (.int .i64 5) (.int .i64 5)).run Try.prog W = .ok (.slice (some ⟨W.heap.size, 0, none⟩) 5 5) (W.alloc (.cells (madeCells #[.int .u8 0] 5) 5)) := print_make (P := Try.prog) 35 5 .u8 1 Try.underlying35 infoByte (by decide) 5 (by decide)
  have hq : (v / 549755813888 != 0) = false := bne_eq_false_iff_eq.2 (by omega)
  go_enter Try.func37, Try.ntmps37
  go_wp2_with fail
  go_loopw [38] (fun i W => ∃ k : Nat, k ≤ 5 ∧ i = .int .i64 k ∧ W.ownsRow w.heap.size 5 1 (.slice (some ⟨w.heap.size, 0, none⟩) 5 5) 5 (nums .u8 (beR v 5 k)) ∧ Below w.heap.size w W) (fun i _ => 5 - (intOf i).toNat)
  case atStart => exact ⟨0, by omega, rfl, by rw [beR_zero]; exact own_made w w.heap.size _ .u8 5 (by omega) (by omega), (Below.refl _ _).alloc (Nat.le_refl _) _⟩
  case round =>
    obtain ⟨k, hk, rfl, ho, hb⟩ := hrel
    by_cases hlt : k < 5
    · have hfz := (own_at' ho (4 - k) (by omega)).2
      have hcz := (own_at' ho (4 - k) (by omega)).1
      have hst := own_store ho ((4 - k : Nat) : Int) (v / 2 ^ (8 * k) % 256)
      rw [Int.toNat_natCast] at hst
      have Hs : Hid ((beR v 5 k).set (4 - k) (v / 2 ^ (8 * k) % 256) = beR v 5 (k + 1)) := Lib.hid (beR_succ v 5 k (by omega))
      go_wp2_with fail
      go_roundw
      case rel => exact ⟨k + 1, by omega, by go_num, by rw [← Hs.out]; exact hst.1, hb.setCell (Nat.le_refl _) _⟩
      case measure => simp [intOf]; omega
    · have Hk : Hid (k = 5) := Lib.hid (by omega)
      have hcv := own_string (P := Try.prog) (src := 35) (dst := 9) Try.underlying35 Try.underlying5 Try.underlying9 ho
      rw [show beR v 5 k = beI v 5 from by rw [Hk.out]; exact beR_full v 5] at hcv
      go_wp2_with fail
      go_ret2
      exact ⟨rfl, hb⟩
set_option maxRecDepth 100000 in
theorem fixPut6c_calls (v : Int) (h : v < -140737488355328 ∨ 140737488355328 ≤ v) (w : World) : Calls Try.prog 37 #[.int .i64 v, .int .i64 6] w fun e w' => e = .returned (.tuple #[.string ⟨#[]⟩, .int .i64 1]) ∧ w = w' := by
  have hq : (v / 140737488355328 != 0) = true := bne_iff_ne.2 (by omega)
  have hq' : (v / 140737488355328 != -1) = true := bne_iff_ne.2 (by omega)
  clear h
  go_enter Try.func37, Try.ntmps37
  go_wp2_with fail
  go_ret2
  exact ⟨rfl, rfl⟩
end Go.Proofs.Ytlkdehflipfpbaa
