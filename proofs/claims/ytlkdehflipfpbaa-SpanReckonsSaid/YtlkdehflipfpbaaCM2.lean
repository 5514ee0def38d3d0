import Derived.Test.YtlkdehflipfpbaaCM1
namespace Go.Proofs.Ytlkdehflipfpbaa.big
open Go.RowKit Go.Proofs.YtlkdehflipfpbaaW.PrintWords
theorem halves_math (a b x y : Int) (hx : x = a / 65536) (hy : y = a % 65536) (p q : Int) (hp : p = y * b) (hq : q = x * b) :
    (q + p / 65536) % 65536 * 65536 + p % 65536 = a * b % 4294967296 ∧ (q + p / 65536) / 65536 = a * b / 4294967296 := by
  have h : a * b = 65536 * q + p := by
    have : a = 65536 * x + y := by omega
    rw [this, Int.add_mul, Int.mul_assoc, ← hp, ← hq]
  rw [h]
  omega
set_option maxRecDepth 100000 in
set_option maxHeartbeats 1000000 in
theorem halves_calls (a b : Int) (ha : 0 ≤ a ∧ a < 4294967296) (hb : 0 ≤ b ∧ b < 4294967296) (w : World) :
    Calls Try.prog 121 #[.int .i64 a, .int .i64 b] w fun e w' => e = .returned (.tuple #[.int .i64 (a * b % 4294967296), .int .i64 (a * b / 4294967296)]) ∧ w' = w := by
  obtain ⟨x, hx⟩ : ∃ x, a / 65536 = x := ⟨_, rfl⟩
  obtain ⟨y, hy⟩ : ∃ y, a % 65536 = y := ⟨_, rfl⟩
  obtain ⟨p, hp⟩ : ∃ p, y * b = p := ⟨_, rfl⟩
  obtain ⟨q, hq⟩ : ∃ q, x * b = q := ⟨_, rfl⟩
  have hx0 : 0 ≤ x ∧ x < 65536 := by omega
  have hy0 : 0 ≤ y ∧ y < 65536 := by omega
  have hp0 : 0 ≤ p ∧ p ≤ 65535 * 4294967295 := by
    rw [← hp]
    exact ⟨Int.mul_nonneg hy0.1 hb.1, Int.mul_le_mul (by omega) (by omega) hb.1 (by omega)⟩
  have hq0 : 0 ≤ q ∧ q ≤ 65535 * 4294967295 := by
    rw [← hq]
    exact ⟨Int.mul_nonneg hx0.1 hb.1, Int.mul_le_mul (by omega) (by omega) hb.1 (by omega)⟩
  have HE := Lib.hid (halves_math a b x y hx.symm hy.symm p q hp.symm hq.symm)
  go_enter Try.func121, Try.ntmps121
  go_wp2_with fail
  go_ret2
  exact ⟨by rw [← HE.out.1, ← HE.out.2]; rfl, rfl⟩
/-- Mul's inner loop: the digit x times the first j digits of b, added from the i-th digit on. -/
def mulK (x : Int) (b : Nat → Int) (i : Nat) (c : Nat → Int) : Nat → (Nat → Int) × Int
  | 0 => (c, 0)
  | j + 1 => (upd (mulK x b i c j).1 (i + j) (((mulK x b i c j).1 (i + j) + x * b j % 4294967296 + (mulK x b i c j).2) % 4294967296),
      ((mulK x b i c j).1 (i + j) + x * b j % 4294967296 + (mulK x b i c j).2) / 4294967296 + x * b j / 4294967296)
/-- Its last loop: n digits on, from the j-th. -/
def carI : Nat → Nat → (Nat → Int) → Int → (Nat → Int)
  | 0, _, c, _ => c
  | n + 1, j, c, k => if 0 < k then carI n (j + 1) (upd c j ((c j + k) % 4294967296)) ((c j + k) / 4294967296) else c
/-- Its outer loop. -/
def mulO (a b : Nat → Int) : Nat → (Nat → Int)
  | 0 => big0
  | i + 1 => carI (3 - i) (i + 3) (mulK (a i) b i (mulO a b i) 3).1 (mulK (a i) b i (mulO a b i) 3).2
theorem mul_step (x y c k : Int) (hx : 0 ≤ x ∧ x < 4294967296) (hy : 0 ≤ y ∧ y < 4294967296) (hc : 0 ≤ c ∧ c < 4294967296) (hk : 0 ≤ k ∧ k < 4294967296) :
    (0 ≤ (c + x * y % 4294967296 + k) / 4294967296 + x * y / 4294967296 ∧ (c + x * y % 4294967296 + k) / 4294967296 + x * y / 4294967296 < 4294967296) ∧
    (c + x * y % 4294967296 + k) % 4294967296 + 4294967296 * ((c + x * y % 4294967296 + k) / 4294967296 + x * y / 4294967296) = c + k + x * y := by
  have h1 : 0 ≤ x * y := Int.mul_nonneg hx.1 hy.1
  have h2 : x * y ≤ 4294967295 * 4294967295 := Int.mul_le_mul (by omega) (by omega) hy.1 (by omega)
  omega
theorem mulK_ok (x : Int) (b : Nat → Int) (i : Nat) (c : Nat → Int) (hx : 0 ≤ x ∧ x < 4294967296) (hb : dig b) (hc : dig c) (j : Nat) (hj : j ≤ 3) (hi : i ≤ 2) :
    dig (mulK x b i c j).1 ∧ 0 ≤ (mulK x b i c j).2 ∧ (mulK x b i c j).2 < 4294967296 := by
  induction j with
  | zero => exact ⟨hc, by simp [mulK], by simp [mulK]⟩
  | succ j ih =>
    obtain ⟨h1, h2⟩ := ih (by omega)
    have hs := mul_step x (b j) _ _ hx (hb j (by omega)) (h1 (i + j) (by omega)) h2
    simp only [mulK]
    exact ⟨upd_dig _ _ _ h1 (by omega), hs.1⟩
end Go.Proofs.Ytlkdehflipfpbaa.big
namespace Go.Proofs.Ytlkdehflipfpbaa.big
open Go.RowKit Go.Proofs.YtlkdehflipfpbaaW.PrintWords
theorem carI_step (n j : Nat) (c : Nat → Int) (k : Int) (h : 0 < k) : carI (n + 1) j c k = carI n (j + 1) (upd c j ((c j + k) % 4294967296)) ((c j + k) / 4294967296) := if_pos h
theorem carI_end (n j : Nat) (c : Nat → Int) (k : Int) (h : ¬ 0 < k) : carI n j c k = c := by
  cases n with
  | zero => rfl
  | succ n => exact if_neg h
/-- The four blocks of Mul. -/
structure MulW (w : World) (m : Bool) (a : Nat → Int) (n : Bool) (b c : Nat → Int) (W : World) : Prop where
  b0 : W.heap[w.heap.size]? = some (.cells (bigC m a) 132 (0, 0))
  b1 : W.heap[w.heap.size + 1]? = some (.cells (bigC n b) 132 (0, 0))
  b2 : W.heap[w.heap.size + 1 + 1]? = some (.cells (bigC false big0) 132 (0, 0))
  b3 : W.heap[w.heap.size + 1 + 1 + 1]? = some (.cells (bigC false c) 132 (0, 0))
  bl : Below w.heap.size w W
section
variable {w W W' : World} {m n : Bool} {a b c : Nat → Int}
theorem MulW.drewN (h : MulW w m a n b c W) (k : Nat) : MulW w m a n b c (W.drewN k) := ⟨h.b0, h.b1, h.b2, h.b3, pw_below_drewN h.bl k⟩
theorem MulW.set (h : MulW w m a n b c W) (i : Nat) (hi : i < 6) (v : Int) : MulW w m a n b (upd c i v) (W.setCell ⟨w.heap.size + 1 + 1 + 1, 1 + i, none⟩ (.int .i64 v)) :=
  ⟨blk_far h.b0 (by show w.heap.size ≠ w.heap.size + 1 + 1 + 1; omega) _, blk_far h.b1 (by show w.heap.size + 1 ≠ w.heap.size + 1 + 1 + 1; omega) _, blk_far h.b2 (by show w.heap.size + 1 + 1 ≠ w.heap.size + 1 + 1 + 1; omega) _,
    blk_put h.b3 (1 + i) _ (bigC_set false c i hi v), h.bl.setCell (by show w.heap.size ≤ w.heap.size + 1 + 1 + 1; omega) _⟩
end
theorem heap_at3 (w : World) (x y z u : Obj) : ((((w.alloc x).alloc y).alloc z).alloc u).heap[w.heap.size + 1 + 1 + 1]? = some u := by
  have h := heap_alloc_new (((w.alloc x).alloc y).alloc z) u
  rw [World.size_alloc, World.size_alloc, World.size_alloc] at h
  exact h
theorem carI_dig : ∀ (n j : Nat) (c : Nat → Int) (k : Int), dig c → 0 ≤ k → n + j ≤ 6 → dig (carI n j c k)
  | 0, _, _, _, hc, _, _ => hc
  | n + 1, j, c, k, hc, hk, hj => by
    by_cases h : 0 < k
    · rw [carI_step n j c k h]
      exact carI_dig n _ _ _ (upd_dig c j _ hc (by omega)) (by have := hc j (by omega); omega) (by omega)
    · rw [carI_end _ _ _ _ h]; exact hc
set_option maxRecDepth 100000 in
set_option maxHeartbeats 4000000 in
theorem mul_walk (m n : Bool) (a b : Nat → Int) (ha : dig a) (hb : dig b) (w : World) : Calls Try.prog 101 #[.agg (bigC m a), .agg (bigC n b)] w fun e w' => e = .returned (.agg (bigC ((m != n) && !zeroD (mulO a b 3)) (mulO a b 3))) ∧ Below w.heap.size w w' := by
  have hM : MulW w m a n b big0 ((((w.alloc (.cells (bigC m a) 132)).alloc (.cells (bigC n b) 132)).alloc (.cells (bigC false big0) 132)).alloc (.cells (bigC false big0) 132)) :=
    ⟨heap_old _ _ _ (heap_old _ _ _ (heap_old _ _ _ (heap_alloc_new w _))), heap_old _ _ _ (heap_old _ _ _ (heap_at1 w _ _)), heap_old _ _ _ (heap_at2 w _ _ _), heap_at3 w _ _ _ _,
      ((((Below.refl _ w).alloc (Nat.le_refl _) _).alloc (by simp) _).alloc (by simp; omega) _).alloc (by simp; omega) _⟩
  have HMW := Lib.hid hM
  have HA := Lib.hid ha
  have HB := Lib.hid hb
  clear hM ha hb
  go_enter Try.func101, Try.ntmps101
  go_wp2_with fail
  go_loopw [6] (fun i W => ∃ k : Nat, k ≤ 3 ∧ i = .int .i64 k ∧ dig (mulO a b k) ∧ MulW w m a n b (mulO a b k) W) (fun i _ => 3 - (intOf i).toNat)
  case atStart => exact ⟨0, by omega, rfl, fun i _ => ⟨by simp [mulO, big0], by simp [mulO, big0]⟩, HMW.out⟩
  case round =>
    obtain ⟨i, hi, rfl, hdig, hW⟩ := hrel
    have HD := Lib.hid hdig
    have HW := Lib.hid hW
    clear hdig hW
    by_cases hlt : i < 3
    · have hi3 : decide ((i : Int) < 3) = true := decide_eq_true (by omega)
      go_wp2_with fail
      obtain ⟨c, hc⟩ : ∃ c, mulO a b i = c := ⟨_, rfl⟩
      rw [hc] at HD HW
      have Hc := Lib.hid hc
      clear hc
      have hx := HA.out i (by omega)
      go_loopw [7, 8] (fun kk jj W => ∃ j : Nat, j ≤ 3 ∧ jj = .int .i64 j ∧ kk = .int .i64 (mulK (a i) b i c j).2 ∧ MulW w m a n b (mulK (a i) b i c j).1 W) (fun _ jj _ => 3 - (intOf jj).toNat)
      case atStart => exact ⟨0, by omega, rfl, rfl, HW.out⟩
      case round =>
        obtain ⟨j, hj, rfl, rfl, hW2⟩ := hrel
        obtain ⟨hd2, hk2⟩ := mulK_ok (a i) b i c hx HB.out HD.out j hj (by omega)
        obtain ⟨q, hq⟩ : ∃ q, (mulK (a i) b i c j).2 = q := ⟨_, rfl⟩
        obtain ⟨d, hd⟩ : ∃ d, (mulK (a i) b i c j).1 = d := ⟨_, rfl⟩
        rw [hq] at hk2 ⊢
        rw [hd] at hd2 hW2
        have Hq := Lib.hid hq
        have Hd := Lib.hid hd
        have HD2 := Lib.hid hd2
        clear hq hd hd2
        by_cases hjl : j < 3
        · have hy := HB.out j (by omega)
          have hcij := HD2.out (i + j) (by omega)
          have hS := mul_step (a i) (b j) (d (i + j)) q hx hy hcij hk2
          obtain ⟨lo, hlo⟩ : ∃ lo, a i * b j % 4294967296 = lo := ⟨_, rfl⟩
          obtain ⟨hi', hhi⟩ : ∃ hi', a i * b j / 4294967296 = hi' := ⟨_, rfl⟩
          have hH := fun w => halves_calls (a i) (b j) hx hy w
          have hlo2 : 0 ≤ lo ∧ lo < 4294967296 := by omega
          have hhi2 : 0 ≤ hi' ∧ hi' < 4294967296 := by
            have h1 : 0 ≤ a i * b j := Int.mul_nonneg hx.1 hy.1
            have h2 : a i * b j ≤ 4294967295 * 4294967295 := Int.mul_le_mul (by omega) (by omega) hy.1 (by omega)
            omega
          rw [hlo, hhi] at hH
          have HE : Hid (mulK (a i) b i c (j + 1) = (upd d (i + j) ((d (i + j) + lo + q) % 4294967296), (d (i + j) + lo + q) / 4294967296 + hi')) := Lib.hid (by simp only [mulK]; rw [Hq.out, Hd.out, hlo, hhi])
          have HH := Lib.hid hH
          clear hS hlo hhi hH
          have ca := big_cell hW2.b0 i (by omega)
          have cb := big_cell hW2.b1 j (by omega)
          have cc := big_cell hW2.b3 (i + j) (by omega)
          have hfz := blk_frozen hW2.b3 (1 + (i + j))
          have HW2 := Lib.hid hW2
          clear hW2
          go_wp2_with fail
          go_quiet ((go_at_call 121; exact Calls.quiet_of_same (HH.out _)))
          go_wp2_with fail
          refine ⟨⟨j + 1, by omega, by go_num, by rw [HE.out], ?_⟩, by simp [intOf]; omega⟩
          rw [HE.out]
          exact (HW2.out.drewN nq).set (i + j) (by omega) _
        · have HJ : Hid (j = 3) := Lib.hid (by omega)
          have HW2 := Lib.hid hW2
          clear hW2
          go_wp2_with fail
          go_loopw [7, 12] (fun kk jj W => ∃ (nn j : Nat) (e : Nat → Int) (k : Int), nn + j = 6 ∧ jj = .int .i64 j ∧ kk = .int .i64 k ∧ (0 ≤ k ∧ k < 4294967296) ∧ dig e ∧ mulO a b (i + 1) = carI nn j e k ∧ MulW w m a n b e W) (fun _ jj _ => 6 - (intOf jj).toNat)
          case atStart => exact ⟨3 - i, i + 3, d, q, by omega, by go_num, rfl, hk2, HD2.out, by simp only [mulO]; rw [Hc.out, ← HJ.out, Hd.out, Hq.out, HJ.out], HW2.out⟩
          case round =>
            obtain ⟨nn, j, e, k, hnj, rfl, rfl, hk, hde, hr, hW3⟩ := hrel
            have HR := Lib.hid hr
            have HDE := Lib.hid hde
            clear hr hde
            by_cases hj6 : j < 6
            · by_cases hkp : 0 < k
              · obtain ⟨nn, rfl⟩ : ∃ n', nn = n' + 1 := ⟨nn - 1, by omega⟩
                have hej := HDE.out j hj6
                have cc := big_cell hW3.b3 j hj6
                have hfz := blk_frozen hW3.b3 (1 + j)
                have HW3 := Lib.hid hW3
                have HE : Hid (carI (nn + 1) j e k = carI nn (j + 1) (upd e j ((e j + k) % 4294967296)) ((e j + k) / 4294967296)) := Lib.hid (carI_step _ _ _ _ hkp)
                clear hW3
                go_wp2_with fail
                go_roundw
                case rel => exact ⟨nn, j + 1, _, _, by omega, by go_num, rfl, by omega, upd_dig e j _ HDE.out (by omega), by rw [HR.out, HE.out], HW3.out.set j hj6 _⟩
                case measure => simp [intOf]; omega
              · have HE : Hid (carI nn j e k = e) := Lib.hid (carI_end _ _ _ _ hkp)
                have HW3 := Lib.hid hW3
                clear hW3
                go_wp2_with fail
                go_roundw
                case rel => exact ⟨i + 1, by omega, by go_num, by rw [HR.out, HE.out]; exact HDE.out, by rw [HR.out, HE.out]; exact HW3.out⟩
                case measure => simp [intOf]; omega
            · obtain rfl : nn = 0 := by omega
              have HE : Hid (carI 0 j e k = e) := Lib.hid rfl
              have HW3 := Lib.hid hW3
              clear hW3
              go_wp2_with fail
              go_roundw
              case rel => exact ⟨i + 1, by omega, by go_num, by rw [HR.out, HE.out]; exact HDE.out, by rw [HR.out, HE.out]; exact HW3.out⟩
              case measure => simp [intOf]; omega
    · obtain rfl : i = 3 := by omega
      obtain ⟨c, hc⟩ : ∃ c, mulO a b 3 = c := ⟨_, rfl⟩
      rw [hc] at HW
      obtain ⟨s, hs⟩ : ∃ s, ((m != n) && !zeroD c) = s := ⟨_, rfl⟩
      have HR : Hid (bigC ((m != n) && !zeroD (mulO a b 3)) (mulO a b 3) = bigC s c) := Lib.hid (by rw [hc, hs])
      have hW := HW.out
      have HZ := Lib.hid (fun w => zero_calls false c w)
      have hg : w.heap.size ≤ w.heap.size + 1 + 1 := by omega
      have hg3 : w.heap.size ≤ w.heap.size + 1 + 1 + 1 := by omega
      have c0 : wr.cell? ⟨w.heap.size + 1 + 1 + 1, 0, none⟩ = some (Value.bool false) := blk_cell hW.b3 0
      have c1 : wr.cell? ⟨w.heap.size + 1 + 1 + 1, 1, none⟩ = some (Value.int .i64 (c 0)) := blk_cell hW.b3 1
      have c2 : wr.cell? ⟨w.heap.size + 1 + 1 + 1, 2, none⟩ = some (Value.int .i64 (c 1)) := blk_cell hW.b3 2
      have c3 : wr.cell? ⟨w.heap.size + 1 + 1 + 1, 3, none⟩ = some (Value.int .i64 (c 2)) := blk_cell hW.b3 3
      have c4 : wr.cell? ⟨w.heap.size + 1 + 1 + 1, 4, none⟩ = some (Value.int .i64 (c 3)) := blk_cell hW.b3 4
      have c5 : wr.cell? ⟨w.heap.size + 1 + 1 + 1, 5, none⟩ = some (Value.int .i64 (c 4)) := blk_cell hW.b3 5
      have c6 : wr.cell? ⟨w.heap.size + 1 + 1 + 1, 6, none⟩ = some (Value.int .i64 (c 5)) := blk_cell hW.b3 6
      have y0 : wr.cell? ⟨w.heap.size + 1 + 1, 0, none⟩ = some (Value.bool false) := blk_cell hW.b2 0
      have y1 : wr.cell? ⟨w.heap.size + 1 + 1, 1, none⟩ = some (Value.int .i64 0) := blk_cell hW.b2 1
      have y2 : wr.cell? ⟨w.heap.size + 1 + 1, 2, none⟩ = some (Value.int .i64 0) := blk_cell hW.b2 2
      have y3 : wr.cell? ⟨w.heap.size + 1 + 1, 3, none⟩ = some (Value.int .i64 0) := blk_cell hW.b2 3
      have y4 : wr.cell? ⟨w.heap.size + 1 + 1, 4, none⟩ = some (Value.int .i64 0) := blk_cell hW.b2 4
      have y5 : wr.cell? ⟨w.heap.size + 1 + 1, 5, none⟩ = some (Value.int .i64 0) := blk_cell hW.b2 5
      have y6 : wr.cell? ⟨w.heap.size + 1 + 1, 6, none⟩ = some (Value.int .i64 0) := blk_cell hW.b2 6
      have z0 : wr.frozen? ⟨w.heap.size + 1 + 1, 0, none⟩ = false := blk_frozen hW.b2 0
      have z1 : wr.frozen? ⟨w.heap.size + 1 + 1, 1, none⟩ = false := blk_frozen hW.b2 1
      have z2 : wr.frozen? ⟨w.heap.size + 1 + 1, 2, none⟩ = false := blk_frozen hW.b2 2
      have z3 : wr.frozen? ⟨w.heap.size + 1 + 1, 3, none⟩ = false := blk_frozen hW.b2 3
      have z4 : wr.frozen? ⟨w.heap.size + 1 + 1, 4, none⟩ = false := blk_frozen hW.b2 4
      have z5 : wr.frozen? ⟨w.heap.size + 1 + 1, 5, none⟩ = false := blk_frozen hW.b2 5
      have z6 : wr.frozen? ⟨w.heap.size + 1 + 1, 6, none⟩ = false := blk_frozen hW.b2 6
      have q0 : wr.frozen? ⟨w.heap.size + 1 + 1 + 1, 0, none⟩ = false := blk_frozen hW.b3 0
      have e0 : wr.cell? ⟨w.heap.size, 0, none⟩ = some (Value.bool m) := blk_cell hW.b0 0
      have f0 : wr.cell? ⟨w.heap.size + 1, 0, none⟩ = some (Value.bool n) := blk_cell hW.b1 0
      have hbl := hW.bl
      have hl3 := blk_lt hW.b3
      clear hW hc
      by_cases hmn : m = n
      · subst hmn
        have hmm : (m != m) = false := by simp
        have HS : Hid (s = false) := Lib.hid (by rw [← hs, hmm]; rfl)
        clear hs
        go_wp2_with fail
        refine bodyPost_ret (v := .agg #[.bool false, .int .i64 (c 0), .int .i64 (c 1), .int .i64 (c 2), .int .i64 (c 3), .int .i64 (c 4), .int .i64 (c 5)]) (by simp [results, Try.results101, go_sem, *]) rfl ?_
        exact ⟨by rw [HR.out, HS.out]; rfl, (((((((hbl.setCell hg3 _).setCell hg _).setCell hg _).setCell hg _).setCell hg _).setCell hg _).setCell hg _).setCell hg _⟩
      · have hmm : (m != n) = true := bne_iff_ne.2 hmn
        have HS : Hid ((!zeroD c) = s) := Lib.hid (by rw [← hs, hmm]; rfl)
        have h2 : (m = true ∧ n = false) ∨ (m = false ∧ n = true) := by cases m <;> cases n <;> simp_all
        clear hs hmn hmm
        rcases h2 with ⟨rfl, rfl⟩ | ⟨rfl, rfl⟩
        · go_wp2_with fail
          refine (HZ.out _).mono ?_
          rintro e w1 ⟨rfl, hb1⟩
          have hz' := HS.out
          clear c0 y0 z0 c1 y1 z1 c2 y2 z2 c3 y3 z3 c4 y4 z4 c5 y5 z5 c6 y6 z6 q0 e0 f0 hbl hl3
          have hW1 : MulW w true a false b c w1 := ⟨(hb1.block _ (blk_lt HW.out.b0)).trans HW.out.b0, (hb1.block _ (blk_lt HW.out.b1)).trans HW.out.b1, (hb1.block _ (blk_lt HW.out.b2)).trans HW.out.b2, (hb1.block _ (blk_lt HW.out.b3)).trans HW.out.b3, below_then HW.out.bl HW.out.bl.size hb1⟩
          have c0 : w1.cell? ⟨w.heap.size + 1 + 1 + 1, 0, none⟩ = some (Value.bool false) := blk_cell hW1.b3 0
          have c1 : w1.cell? ⟨w.heap.size + 1 + 1 + 1, 1, none⟩ = some (Value.int .i64 (c 0)) := blk_cell hW1.b3 1
          have c2 : w1.cell? ⟨w.heap.size + 1 + 1 + 1, 2, none⟩ = some (Value.int .i64 (c 1)) := blk_cell hW1.b3 2
          have c3 : w1.cell? ⟨w.heap.size + 1 + 1 + 1, 3, none⟩ = some (Value.int .i64 (c 2)) := blk_cell hW1.b3 3
          have c4 : w1.cell? ⟨w.heap.size + 1 + 1 + 1, 4, none⟩ = some (Value.int .i64 (c 3)) := blk_cell hW1.b3 4
          have c5 : w1.cell? ⟨w.heap.size + 1 + 1 + 1, 5, none⟩ = some (Value.int .i64 (c 4)) := blk_cell hW1.b3 5
          have c6 : w1.cell? ⟨w.heap.size + 1 + 1 + 1, 6, none⟩ = some (Value.int .i64 (c 5)) := blk_cell hW1.b3 6
          have y0 : w1.cell? ⟨w.heap.size + 1 + 1, 0, none⟩ = some (Value.bool false) := blk_cell hW1.b2 0
          have y1 : w1.cell? ⟨w.heap.size + 1 + 1, 1, none⟩ = some (Value.int .i64 0) := blk_cell hW1.b2 1
          have y2 : w1.cell? ⟨w.heap.size + 1 + 1, 2, none⟩ = some (Value.int .i64 0) := blk_cell hW1.b2 2
          have y3 : w1.cell? ⟨w.heap.size + 1 + 1, 3, none⟩ = some (Value.int .i64 0) := blk_cell hW1.b2 3
          have y4 : w1.cell? ⟨w.heap.size + 1 + 1, 4, none⟩ = some (Value.int .i64 0) := blk_cell hW1.b2 4
          have y5 : w1.cell? ⟨w.heap.size + 1 + 1, 5, none⟩ = some (Value.int .i64 0) := blk_cell hW1.b2 5
          have y6 : w1.cell? ⟨w.heap.size + 1 + 1, 6, none⟩ = some (Value.int .i64 0) := blk_cell hW1.b2 6
          have z0 : w1.frozen? ⟨w.heap.size + 1 + 1, 0, none⟩ = false := blk_frozen hW1.b2 0
          have z1 : w1.frozen? ⟨w.heap.size + 1 + 1, 1, none⟩ = false := blk_frozen hW1.b2 1
          have z2 : w1.frozen? ⟨w.heap.size + 1 + 1, 2, none⟩ = false := blk_frozen hW1.b2 2
          have z3 : w1.frozen? ⟨w.heap.size + 1 + 1, 3, none⟩ = false := blk_frozen hW1.b2 3
          have z4 : w1.frozen? ⟨w.heap.size + 1 + 1, 4, none⟩ = false := blk_frozen hW1.b2 4
          have z5 : w1.frozen? ⟨w.heap.size + 1 + 1, 5, none⟩ = false := blk_frozen hW1.b2 5
          have z6 : w1.frozen? ⟨w.heap.size + 1 + 1, 6, none⟩ = false := blk_frozen hW1.b2 6
          have q0 : w1.frozen? ⟨w.heap.size + 1 + 1 + 1, 0, none⟩ = false := blk_frozen hW1.b3 0
          have e0 : w1.cell? ⟨w.heap.size, 0, none⟩ = some (Value.bool true) := blk_cell hW1.b0 0
          have f0 : w1.cell? ⟨w.heap.size + 1, 0, none⟩ = some (Value.bool false) := blk_cell hW1.b1 0
          have hbl := hW1.bl
          have hl3 := blk_lt hW1.b3
          clear hW1 hb1
          go_wp2_with fail
          refine bodyPost_ret (v := .agg #[.bool s, .int .i64 (c 0), .int .i64 (c 1), .int .i64 (c 2), .int .i64 (c 3), .int .i64 (c 4), .int .i64 (c 5)]) (by simp [results, Try.results101, go_sem, *]) rfl ?_
          exact ⟨by rw [HR.out]; rfl, (((((((hbl.setCell hg3 _).setCell hg _).setCell hg _).setCell hg _).setCell hg _).setCell hg _).setCell hg _).setCell hg _⟩
        · go_wp2_with fail
          refine (HZ.out _).mono ?_
          rintro e w1 ⟨rfl, hb1⟩
          have hz' := HS.out
          clear c0 y0 z0 c1 y1 z1 c2 y2 z2 c3 y3 z3 c4 y4 z4 c5 y5 z5 c6 y6 z6 q0 e0 f0 hbl hl3
          have hW1 : MulW w false a true b c w1 := ⟨(hb1.block _ (blk_lt HW.out.b0)).trans HW.out.b0, (hb1.block _ (blk_lt HW.out.b1)).trans HW.out.b1, (hb1.block _ (blk_lt HW.out.b2)).trans HW.out.b2, (hb1.block _ (blk_lt HW.out.b3)).trans HW.out.b3, below_then HW.out.bl HW.out.bl.size hb1⟩
          have c0 : w1.cell? ⟨w.heap.size + 1 + 1 + 1, 0, none⟩ = some (Value.bool false) := blk_cell hW1.b3 0
          have c1 : w1.cell? ⟨w.heap.size + 1 + 1 + 1, 1, none⟩ = some (Value.int .i64 (c 0)) := blk_cell hW1.b3 1
          have c2 : w1.cell? ⟨w.heap.size + 1 + 1 + 1, 2, none⟩ = some (Value.int .i64 (c 1)) := blk_cell hW1.b3 2
          have c3 : w1.cell? ⟨w.heap.size + 1 + 1 + 1, 3, none⟩ = some (Value.int .i64 (c 2)) := blk_cell hW1.b3 3
          have c4 : w1.cell? ⟨w.heap.size + 1 + 1 + 1, 4, none⟩ = some (Value.int .i64 (c 3)) := blk_cell hW1.b3 4
          have c5 : w1.cell? ⟨w.heap.size + 1 + 1 + 1, 5, none⟩ = some (Value.int .i64 (c 4)) := blk_cell hW1.b3 5
          have c6 : w1.cell? ⟨w.heap.size + 1 + 1 + 1, 6, none⟩ = some (Value.int .i64 (c 5)) := blk_cell hW1.b3 6
          have y0 : w1.cell? ⟨w.heap.size + 1 + 1, 0, none⟩ = some (Value.bool false) := blk_cell hW1.b2 0
          have y1 : w1.cell? ⟨w.heap.size + 1 + 1, 1, none⟩ = some (Value.int .i64 0) := blk_cell hW1.b2 1
          have y2 : w1.cell? ⟨w.heap.size + 1 + 1, 2, none⟩ = some (Value.int .i64 0) := blk_cell hW1.b2 2
          have y3 : w1.cell? ⟨w.heap.size + 1 + 1, 3, none⟩ = some (Value.int .i64 0) := blk_cell hW1.b2 3
          have y4 : w1.cell? ⟨w.heap.size + 1 + 1, 4, none⟩ = some (Value.int .i64 0) := blk_cell hW1.b2 4
          have y5 : w1.cell? ⟨w.heap.size + 1 + 1, 5, none⟩ = some (Value.int .i64 0) := blk_cell hW1.b2 5
          have y6 : w1.cell? ⟨w.heap.size + 1 + 1, 6, none⟩ = some (Value.int .i64 0) := blk_cell hW1.b2 6
          have z0 : w1.frozen? ⟨w.heap.size + 1 + 1, 0, none⟩ = false := blk_frozen hW1.b2 0
          have z1 : w1.frozen? ⟨w.heap.size + 1 + 1, 1, none⟩ = false := blk_frozen hW1.b2 1
          have z2 : w1.frozen? ⟨w.heap.size + 1 + 1, 2, none⟩ = false := blk_frozen hW1.b2 2
          have z3 : w1.frozen? ⟨w.heap.size + 1 + 1, 3, none⟩ = false := blk_frozen hW1.b2 3
          have z4 : w1.frozen? ⟨w.heap.size + 1 + 1, 4, none⟩ = false := blk_frozen hW1.b2 4
          have z5 : w1.frozen? ⟨w.heap.size + 1 + 1, 5, none⟩ = false := blk_frozen hW1.b2 5
          have z6 : w1.frozen? ⟨w.heap.size + 1 + 1, 6, none⟩ = false := blk_frozen hW1.b2 6
          have q0 : w1.frozen? ⟨w.heap.size + 1 + 1 + 1, 0, none⟩ = false := blk_frozen hW1.b3 0
          have e0 : w1.cell? ⟨w.heap.size, 0, none⟩ = some (Value.bool false) := blk_cell hW1.b0 0
          have f0 : w1.cell? ⟨w.heap.size + 1, 0, none⟩ = some (Value.bool true) := blk_cell hW1.b1 0
          have hbl := hW1.bl
          have hl3 := blk_lt hW1.b3
          clear hW1 hb1
          go_wp2_with fail
          refine bodyPost_ret (v := .agg #[.bool s, .int .i64 (c 0), .int .i64 (c 1), .int .i64 (c 2), .int .i64 (c 3), .int .i64 (c 4), .int .i64 (c 5)]) (by simp [results, Try.results101, go_sem, *]) rfl ?_
          exact ⟨by rw [HR.out]; rfl, (((((((hbl.setCell hg3 _).setCell hg _).setCell hg _).setCell hg _).setCell hg _).setCell hg _).setCell hg _).setCell hg _⟩
end Go.Proofs.Ytlkdehflipfpbaa.big
namespace Go.Proofs.Ytlkdehflipfpbaa.big
open Go.RowKit Go.Proofs.YtlkdehflipfpbaaW.PrintWords
theorem mulK_succ (x : Int) (b : Nat → Int) (i : Nat) (c : Nat → Int) (hx : 0 ≤ x ∧ x < 4294967296) (hb : dig b) (hc : dig c) (j : Nat) (hj : j < 3) (hi : i ≤ 2) :
    ∃ r k, mulK x b i c (j + 1) = (upd (mulK x b i c j).1 (i + j) r, k) ∧ (0 ≤ r ∧ r < 4294967296) ∧ (0 ≤ k ∧ k < 4294967296) ∧ r + 4294967296 * k = (mulK x b i c j).1 (i + j) + (mulK x b i c j).2 + x * b j := by
  obtain ⟨h1, h2⟩ := mulK_ok x b i c hx hb hc j (by omega) hi
  have hs := mul_step x (b j) _ _ hx (hb j (by omega)) (h1 (i + j) (by omega)) h2
  exact ⟨_, _, rfl, by omega, hs.1, hs.2⟩
theorem carI_val3 (c : Nat → Int) (k : Int) (hc : dig c) (hk : 0 ≤ k ∧ k < 4294967296) : ∃ t, 0 ≤ t ∧ val (carI 3 3 c k) + 6277101735386680763835789423207666416102355444464034512896 * t = val c + 79228162514264337593543950336 * k := by
  have c0 := hc 0 (by omega)
  have c1 := hc 1 (by omega)
  have c2 := hc 2 (by omega)
  have c3 := hc 3 (by omega)
  have c4 := hc 4 (by omega)
  have c5 := hc 5 (by omega)
  simp only [val, carI]
  repeat' split
  all_goals try simp only [upd, Nat.reduceAdd, Nat.reduceEqDiff, if_true, if_false] at *
  all_goals first
    | exact ⟨0, by omega, by omega⟩
    | exact ⟨((c 5 + ((c 4 + ((c 3 + k) / 4294967296)) / 4294967296)) / 4294967296), by omega, by omega⟩
theorem carI_val2 (c : Nat → Int) (k : Int) (hc : dig c) (hk : 0 ≤ k ∧ k < 4294967296) : ∃ t, 0 ≤ t ∧ val (carI 2 4 c k) + 6277101735386680763835789423207666416102355444464034512896 * t = val c + 340282366920938463463374607431768211456 * k := by
  have c0 := hc 0 (by omega)
  have c1 := hc 1 (by omega)
  have c2 := hc 2 (by omega)
  have c3 := hc 3 (by omega)
  have c4 := hc 4 (by omega)
  have c5 := hc 5 (by omega)
  simp only [val, carI]
  repeat' split
  all_goals try simp only [upd, Nat.reduceAdd, Nat.reduceEqDiff, if_true, if_false] at *
  all_goals first
    | exact ⟨0, by omega, by omega⟩
    | exact ⟨((c 5 + ((c 4 + k) / 4294967296)) / 4294967296), by omega, by omega⟩
theorem carI_val1 (c : Nat → Int) (k : Int) (hc : dig c) (hk : 0 ≤ k ∧ k < 4294967296) : ∃ t, 0 ≤ t ∧ val (carI 1 5 c k) + 6277101735386680763835789423207666416102355444464034512896 * t = val c + 1461501637330902918203684832716283019655932542976 * k := by
  have c0 := hc 0 (by omega)
  have c1 := hc 1 (by omega)
  have c2 := hc 2 (by omega)
  have c3 := hc 3 (by omega)
  have c4 := hc 4 (by omega)
  have c5 := hc 5 (by omega)
  simp only [val, carI]
  repeat' split
  all_goals try simp only [upd, Nat.reduceEqDiff, if_true, if_false] at *
  all_goals first
    | exact ⟨0, by omega, by omega⟩
    | exact ⟨((c 5 + k) / 4294967296), by omega, by omega⟩
theorem mul_round0 (x : Int) (b c : Nat → Int) (hx : 0 ≤ x ∧ x < 4294967296) (hb : dig b) (hc : dig c) (h : val c + 1 * (x * b 0 + 4294967296 * (x * b 1) + 18446744073709551616 * (x * b 2)) < 6277101735386680763835789423207666416102355444464034512896) :
    dig (carI 3 3 (mulK x b 0 c 3).1 (mulK x b 0 c 3).2) ∧ val (carI 3 3 (mulK x b 0 c 3).1 (mulK x b 0 c 3).2) = val c + 1 * (x * b 0 + 4294967296 * (x * b 1) + 18446744073709551616 * (x * b 2)) := by
  obtain ⟨r0, k1, e1, hr0, hk1, q0⟩ := mulK_succ x b 0 c hx hb hc 0 (by omega) (by omega)
  obtain ⟨r1, k2, e2, hr1, hk2, q1⟩ := mulK_succ x b 0 c hx hb hc 1 (by omega) (by omega)
  obtain ⟨r2, k3, e3, hr2, hk3, q2⟩ := mulK_succ x b 0 c hx hb hc 2 (by omega) (by omega)
  obtain ⟨hd, hk⟩ := mulK_ok x b 0 c hx hb hc 3 (by omega) (by omega)
  have z : mulK x b 0 c 0 = (c, 0) := rfl
  have hcd := carI_dig 3 3 _ _ hd hk.1 (by omega)
  obtain ⟨t, ht, hv⟩ := carI_val3 _ _ hd hk
  refine ⟨hcd, ?_⟩
  have hR : 0 ≤ val (carI 3 3 (mulK x b 0 c 3).1 (mulK x b 0 c 3).2) ∧ val (carI 3 3 (mulK x b 0 c 3).1 (mulK x b 0 c 3).2) < 6277101735386680763835789423207666416102355444464034512896 := by
    generalize carI 3 3 (mulK x b 0 c 3).1 (mulK x b 0 c 3).2 = D at hcd ⊢
    have d0 := hcd 0 (by omega)
    have d1 := hcd 1 (by omega)
    have d2 := hcd 2 (by omega)
    have d3 := hcd 3 (by omega)
    have d4 := hcd 4 (by omega)
    have d5 := hcd 5 (by omega)
    simp only [val]
    omega
  generalize val (carI 3 3 (mulK x b 0 c 3).1 (mulK x b 0 c 3).2) = R at hR hv ⊢
  simp only [Nat.reduceAdd] at e1 e2 e3
  rw [e3, e2, e1, z] at hv
  rw [z] at q0
  rw [e1, z] at q1
  rw [e2, e1, z] at q2
  simp only [val, upd, Nat.reduceAdd, Nat.reduceEqDiff, if_true, if_false] at hv q0 q1 q2 h ⊢
  generalize x * b 0 = p0 at *
  generalize x * b 1 = p1 at *
  generalize x * b 2 = p2 at *
  omega
theorem mul_round1 (x : Int) (b c : Nat → Int) (hx : 0 ≤ x ∧ x < 4294967296) (hb : dig b) (hc : dig c) (h : val c + 4294967296 * (x * b 0 + 4294967296 * (x * b 1) + 18446744073709551616 * (x * b 2)) < 6277101735386680763835789423207666416102355444464034512896) :
    dig (carI 2 4 (mulK x b 1 c 3).1 (mulK x b 1 c 3).2) ∧ val (carI 2 4 (mulK x b 1 c 3).1 (mulK x b 1 c 3).2) = val c + 4294967296 * (x * b 0 + 4294967296 * (x * b 1) + 18446744073709551616 * (x * b 2)) := by
  obtain ⟨r0, k1, e1, hr0, hk1, q0⟩ := mulK_succ x b 1 c hx hb hc 0 (by omega) (by omega)
  obtain ⟨r1, k2, e2, hr1, hk2, q1⟩ := mulK_succ x b 1 c hx hb hc 1 (by omega) (by omega)
  obtain ⟨r2, k3, e3, hr2, hk3, q2⟩ := mulK_succ x b 1 c hx hb hc 2 (by omega) (by omega)
  obtain ⟨hd, hk⟩ := mulK_ok x b 1 c hx hb hc 3 (by omega) (by omega)
  have z : mulK x b 1 c 0 = (c, 0) := rfl
  have hcd := carI_dig 2 4 _ _ hd hk.1 (by omega)
  obtain ⟨t, ht, hv⟩ := carI_val2 _ _ hd hk
  refine ⟨hcd, ?_⟩
  have hR : 0 ≤ val (carI 2 4 (mulK x b 1 c 3).1 (mulK x b 1 c 3).2) ∧ val (carI 2 4 (mulK x b 1 c 3).1 (mulK x b 1 c 3).2) < 6277101735386680763835789423207666416102355444464034512896 := by
    generalize carI 2 4 (mulK x b 1 c 3).1 (mulK x b 1 c 3).2 = D at hcd ⊢
    have d0 := hcd 0 (by omega)
    have d1 := hcd 1 (by omega)
    have d2 := hcd 2 (by omega)
    have d3 := hcd 3 (by omega)
    have d4 := hcd 4 (by omega)
    have d5 := hcd 5 (by omega)
    simp only [val]
    omega
  generalize val (carI 2 4 (mulK x b 1 c 3).1 (mulK x b 1 c 3).2) = R at hR hv ⊢
  simp only [Nat.reduceAdd] at e1 e2 e3
  rw [e3, e2, e1, z] at hv
  rw [z] at q0
  rw [e1, z] at q1
  rw [e2, e1, z] at q2
  simp only [val, upd, Nat.reduceAdd, Nat.reduceEqDiff, if_true, if_false] at hv q0 q1 q2 h ⊢
  generalize x * b 0 = p0 at *
  generalize x * b 1 = p1 at *
  generalize x * b 2 = p2 at *
  omega
theorem mul_round2 (x : Int) (b c : Nat → Int) (hx : 0 ≤ x ∧ x < 4294967296) (hb : dig b) (hc : dig c) (h : val c + 18446744073709551616 * (x * b 0 + 4294967296 * (x * b 1) + 18446744073709551616 * (x * b 2)) < 6277101735386680763835789423207666416102355444464034512896) :
    dig (carI 1 5 (mulK x b 2 c 3).1 (mulK x b 2 c 3).2) ∧ val (carI 1 5 (mulK x b 2 c 3).1 (mulK x b 2 c 3).2) = val c + 18446744073709551616 * (x * b 0 + 4294967296 * (x * b 1) + 18446744073709551616 * (x * b 2)) := by
  obtain ⟨r0, k1, e1, hr0, hk1, q0⟩ := mulK_succ x b 2 c hx hb hc 0 (by omega) (by omega)
  obtain ⟨r1, k2, e2, hr1, hk2, q1⟩ := mulK_succ x b 2 c hx hb hc 1 (by omega) (by omega)
  obtain ⟨r2, k3, e3, hr2, hk3, q2⟩ := mulK_succ x b 2 c hx hb hc 2 (by omega) (by omega)
  obtain ⟨hd, hk⟩ := mulK_ok x b 2 c hx hb hc 3 (by omega) (by omega)
  have z : mulK x b 2 c 0 = (c, 0) := rfl
  have hcd := carI_dig 1 5 _ _ hd hk.1 (by omega)
  obtain ⟨t, ht, hv⟩ := carI_val1 _ _ hd hk
  refine ⟨hcd, ?_⟩
  have hR : 0 ≤ val (carI 1 5 (mulK x b 2 c 3).1 (mulK x b 2 c 3).2) ∧ val (carI 1 5 (mulK x b 2 c 3).1 (mulK x b 2 c 3).2) < 6277101735386680763835789423207666416102355444464034512896 := by
    generalize carI 1 5 (mulK x b 2 c 3).1 (mulK x b 2 c 3).2 = D at hcd ⊢
    have d0 := hcd 0 (by omega)
    have d1 := hcd 1 (by omega)
    have d2 := hcd 2 (by omega)
    have d3 := hcd 3 (by omega)
    have d4 := hcd 4 (by omega)
    have d5 := hcd 5 (by omega)
    simp only [val]
    omega
  generalize val (carI 1 5 (mulK x b 2 c 3).1 (mulK x b 2 c 3).2) = R at hR hv ⊢
  simp only [Nat.reduceAdd] at e1 e2 e3
  rw [e3, e2, e1, z] at hv
  rw [z] at q0
  rw [e1, z] at q1
  rw [e2, e1, z] at q2
  simp only [val, upd, Nat.reduceAdd, Nat.reduceEqDiff, if_true, if_false] at hv q0 q1 q2 h ⊢
  generalize x * b 0 = p0 at *
  generalize x * b 1 = p1 at *
  generalize x * b 2 = p2 at *
  omega
end Go.Proofs.Ytlkdehflipfpbaa.big
namespace Go.Proofs.Ytlkdehflipfpbaa.big
open Go.RowKit Go.Proofs.YtlkdehflipfpbaaW.PrintWords
theorem mulO_val (x y : Int) (hx : 0 ≤ x ∧ x < 79228162514264337593543950336) (hy : 0 ≤ y ∧ y < 79228162514264337593543950336) :
    dig (mulO (dgs x) (dgs y) 3) ∧ val (mulO (dgs x) (dgs y) 3) = x * y := by
  have ha := dgs_dig x
  have hb := dgs_dig y
  have hxs : dgs x 0 + 4294967296 * dgs x 1 + 18446744073709551616 * dgs x 2 = x := by simp only [dgs]; omega
  have hys : dgs y 0 + 4294967296 * dgs y 1 + 18446744073709551616 * dgs y 2 = y := by simp only [dgs]; omega
  generalize dgs x = a at *
  generalize dgs y = b at *
  have hS : ∀ i, a i * b 0 + 4294967296 * (a i * b 1) + 18446744073709551616 * (a i * b 2) = a i * y := by
    intro i
    rw [← hys, Int.mul_add, Int.mul_add, Int.mul_left_comm (a i) 4294967296, Int.mul_left_comm (a i) 18446744073709551616]
  have hT : a 0 * y + 4294967296 * (a 1 * y) + 18446744073709551616 * (a 2 * y) = x * y := by
    rw [← hxs, Int.add_mul, Int.add_mul, Int.mul_assoc, Int.mul_assoc]
  have hxy : x * y < 6277101735386680763835789423207666416102355444464034512896 := by
    have h1 : x * y ≤ 79228162514264337593543950335 * 79228162514264337593543950335 := Int.mul_le_mul (by omega) (by omega) hy.1 (by omega)
    omega
  have hp : ∀ i, i < 6 → 0 ≤ a i * y := fun i hi => Int.mul_nonneg (ha i hi).1 hy.1
  have p0 := hp 0 (by omega)
  have p1 := hp 1 (by omega)
  have p2 := hp 2 (by omega)
  have s0 := hS 0
  have s1 := hS 1
  have s2 := hS 2
  have v0 : val (mulO a b 0) = 0 := by simp [mulO, val, big0]
  have g0 : dig (mulO a b 0) := fun i _ => ⟨by simp [mulO, big0], by simp [mulO, big0]⟩
  obtain ⟨g1, v1⟩ := mul_round0 (a 0) b (mulO a b 0) (ha 0 (by omega)) hb g0 (by rw [v0, s0]; omega)
  have e1 : mulO a b 1 = carI 3 3 (mulK (a 0) b 0 (mulO a b 0) 3).1 (mulK (a 0) b 0 (mulO a b 0) 3).2 := rfl
  rw [← e1] at g1 v1
  rw [v0, s0] at v1
  obtain ⟨g2, v2⟩ := mul_round1 (a 1) b (mulO a b 1) (ha 1 (by omega)) hb g1 (by rw [v1, s1]; omega)
  have e2 : mulO a b 2 = carI 2 4 (mulK (a 1) b 1 (mulO a b 1) 3).1 (mulK (a 1) b 1 (mulO a b 1) 3).2 := rfl
  rw [← e2] at g2 v2
  rw [v1, s1] at v2
  obtain ⟨g3, v3⟩ := mul_round2 (a 2) b (mulO a b 2) (ha 2 (by omega)) hb g2 (by rw [v2, s2]; omega)
  have e3 : mulO a b 3 = carI 1 5 (mulK (a 2) b 2 (mulO a b 2) 3).1 (mulK (a 2) b 2 (mulO a b 2) 3).2 := rfl
  rw [← e3] at g3 v3
  rw [v2, s2] at v3
  exact ⟨g3, by rw [v3]; omega⟩
theorem mag_mul (x y : Int) : mag (x * y) = mag x * mag y := by
  unfold mag
  by_cases hx : x < 0 <;> by_cases hy : y < 0
  · have := Int.mul_pos_of_neg_of_neg hx hy
    rw [if_neg (by omega), if_pos hx, if_pos hy, Int.neg_mul_neg]
  · rw [if_pos hx, if_neg hy, Int.neg_mul]
    have h1 := Int.mul_nonneg (show 0 ≤ -x by omega) (show 0 ≤ y by omega)
    rw [Int.neg_mul] at h1
    split <;> omega
  · rw [if_neg hx, if_pos hy, Int.mul_neg]
    have h1 := Int.mul_nonneg (show 0 ≤ x by omega) (show 0 ≤ -y by omega)
    rw [Int.mul_neg] at h1
    split <;> omega
  · have := Int.mul_nonneg (show 0 ≤ x by omega) (show 0 ≤ y by omega)
    rw [if_neg (by omega), if_neg hx, if_neg hy]
theorem sign_mul (x y : Int) : ((decide (x < 0) != decide (y < 0)) && !decide (x * y = 0)) = decide (x * y < 0) := by
  by_cases h0 : x * y = 0
  · rw [h0]; simp
  · rw [decide_eq_false h0]
    have hx0 : x ≠ 0 := fun h => h0 (by rw [h, Int.zero_mul])
    have hy0 : y ≠ 0 := fun h => h0 (by rw [h, Int.mul_zero])
    by_cases hx : x < 0 <;> by_cases hy : y < 0
    · have := Int.mul_pos_of_neg_of_neg hx hy
      rw [decide_eq_true hx, decide_eq_true hy, decide_eq_false (by omega)]; rfl
    · have := Int.mul_neg_of_neg_of_pos hx (show 0 < y by omega)
      rw [decide_eq_true hx, decide_eq_false hy, decide_eq_true this]; rfl
    · have := Int.mul_neg_of_pos_of_neg (show 0 < x by omega) hy
      rw [decide_eq_false hx, decide_eq_true hy, decide_eq_true this]; rfl
    · have := Int.mul_pos (show 0 < x by omega) (show 0 < y by omega)
      rw [decide_eq_false hx, decide_eq_false hy, decide_eq_false (by omega)]; rfl
/-- Mul on numbers of three digits. -/
theorem mulN (x y : Int) (hx : mag x < 79228162514264337593543950336) (hy : mag y < 79228162514264337593543950336) (w : World) :
    Calls Try.prog 101 #[.agg (bigN x), .agg (bigN y)] w fun e w' => e = .returned (.agg (bigN (x * y))) ∧ Below w.heap.size w w' := by
  have hx0 : 0 ≤ mag x := by unfold mag; split <;> omega
  have hy0 : 0 ≤ mag y := by unfold mag; split <;> omega
  obtain ⟨h1, h2⟩ := mulO_val (mag x) (mag y) ⟨hx0, hx⟩ ⟨hy0, hy⟩
  have hxy : mag x * mag y < 6277101735386680763835789423207666416102355444464034512896 := by
    have h1 : mag x * mag y ≤ 79228162514264337593543950335 * 79228162514264337593543950335 := Int.mul_le_mul (by omega) (by omega) hy0 (by omega)
    omega
  have hn := Int.mul_nonneg hx0 hy0
  have hz : zeroD (mulO (dgs (mag x)) (dgs (mag y)) 3) = decide (x * y = 0) := by
    have hc : ∀ i, i < 6 → mulO (dgs (mag x)) (dgs (mag y)) 3 i = dgs (mag x * mag y) i := fun i hi => by rw [← h2]; exact dgs_val _ h1 i hi
    unfold zeroD
    rw [hc 0 (by omega), hc 1 (by omega), hc 2 (by omega), hc 3 (by omega), hc 4 (by omega), hc 5 (by omega)]
    have h3 := zero_val (mag x * mag y) ⟨hn, hxy⟩
    unfold zeroD at h3
    rw [h3, ← mag_mul]
    exact decide_eq_decide.2 (mag_zero _)
  have H := mul_walk (decide (x < 0)) (decide (y < 0)) _ _ (dgs_dig (mag x)) (dgs_dig (mag y)) w
  rw [hz, sign_mul, bigC_val _ _ h1 _ h2, ← mag_mul] at H
  exact H
end Go.Proofs.Ytlkdehflipfpbaa.big
namespace Go.Proofs.Ytlkdehflipfpbaa.big
open Go.RowKit Go.Proofs.YtlkdehflipfpbaaW.PrintWords
/-- Divided by 2^32, down or up. -/
def shiftI (n : Int) (up : Bool) : Int := if up = true then -((-n) / 4294967296) else n / 4294967296
def shK (d : Nat → Int) : Nat → (Nat → Int)
  | 0 => big0
  | k + 1 => upd (shK d k) k (d (k + 1))
theorem shK_dgs (M : Int) (hM : 0 ≤ M ∧ M < 6277101735386680763835789423207666416102355444464034512896) (m : Bool) : bigC m (shK (dgs M) 5) = bigC m (dgs (M / 4294967296)) := by
  refine bigC_congr m _ _ fun i hi => ?_
  match i, hi with
  | 0, _ => simp only [shK, upd, dgs, Nat.reduceEqDiff, if_true, if_false]
  | 1, _ => simp only [shK, upd, dgs, Nat.reduceEqDiff, if_true, if_false]; omega
  | 2, _ => simp only [shK, upd, dgs, Nat.reduceEqDiff, if_true, if_false]; omega
  | 3, _ => simp only [shK, upd, dgs, Nat.reduceEqDiff, if_true, if_false]; omega
  | 4, _ => simp only [shK, upd, dgs, Nat.reduceEqDiff, if_true]; omega
  | 5, _ => simp only [shK, upd, dgs, big0, Nat.reduceEqDiff, if_false]; omega
/-- The three blocks of Shift. -/
structure ShW (w : World) (m : Bool) (a c : Nat → Int) (W : World) : Prop where
  b0 : W.heap[w.heap.size]? = some (.cells (bigC m a) 132 (0, 0))
  b1 : W.heap[w.heap.size + 1]? = some (.cells (bigC false big0) 132 (0, 0))
  b2 : W.heap[w.heap.size + 1 + 1]? = some (.cells (bigC m c) 132 (0, 0))
  bl : Below w.heap.size w W
theorem ShW.set {w W : World} {m : Bool} {a c : Nat → Int} (h : ShW w m a c W) (i : Nat) (hi : i < 6) (v : Int) : ShW w m a (upd c i v) (W.setCell ⟨w.heap.size + 1 + 1, 1 + i, none⟩ (.int .i64 v)) :=
  ⟨blk_far h.b0 (by show w.heap.size ≠ w.heap.size + 1 + 1; omega) _, blk_far h.b1 (by show w.heap.size + 1 ≠ w.heap.size + 1 + 1; omega) _,
    blk_put h.b2 (1 + i) _ (bigC_set m c i hi v), h.bl.setCell (by show w.heap.size ≤ w.heap.size + 1 + 1; omega) _⟩
theorem ShW.below {w W W' : World} {m : Bool} {a c : Nat → Int} (h : ShW w m a c W) (hb : Below W.heap.size W W') : ShW w m a c W' :=
  ⟨(hb.block _ (blk_lt h.b0)).trans h.b0, (hb.block _ (blk_lt h.b1)).trans h.b1, (hb.block _ (blk_lt h.b2)).trans h.b2, below_then h.bl h.bl.size hb⟩
/-- What Shift tells of the size M and the sign m. -/
def shM (M : Int) (m up : Bool) : Int := if 0 < M % 4294967296 ∧ (m != up) = true then M / 4294967296 + 1 else M / 4294967296
theorem sh_big (n : Int) (up : Bool) : bigC (decide (n < 0) && !decide (shM (mag n) (decide (n < 0)) up = 0)) (dgs (shM (mag n) (decide (n < 0)) up)) = bigN (shiftI n up) := by
  have h : shM (mag n) (decide (n < 0)) up = mag (shiftI n up) := by
    unfold shM mag shiftI
    cases up
    · by_cases hn : n < 0
      · rw [if_pos hn, decide_eq_true hn]
        simp
        split <;> omega
      · rw [if_neg hn, decide_eq_false hn]
        simp
        omega
    · by_cases hn : n < 0
      · rw [if_pos hn, decide_eq_true hn]
        simp
        omega
      · rw [if_neg hn, decide_eq_false hn]
        simp
        split <;> omega
  unfold bigN
  rw [h]
  congr 1
  by_cases h0 : shiftI n up = 0
  · rw [h0]; simp [mag]
  · have hm : mag (shiftI n up) ≠ 0 := fun h => h0 ((mag_zero _).1 h)
    rw [decide_eq_false hm, Bool.not_false, Bool.and_true]
    apply decide_eq_decide.2
    unfold shiftI at h0 ⊢
    cases up <;> simp at h0 ⊢ <;> omega
set_option maxRecDepth 100000 in
set_option maxHeartbeats 2000000 in
theorem shift_walk (M : Int) (hM : 0 ≤ M ∧ M < 3138550867693340381917894711603833208051177722232017256448) (m up : Bool) (w : World) :
    Calls Try.prog 102 #[.agg (bigC m (dgs M)), .bool up] w fun e w' => e = .returned (.agg (bigC (m && !decide (shM M m up = 0)) (dgs (shM M m up)))) ∧ Below w.heap.size w w' := by
  have hR : 0 ≤ shM M m up ∧ shM M m up < 3138550867693340381917894711603833208051177722232017256448 := by unfold shM; split <;> omega
  have HS5 := Lib.hid (shK_dgs M (by omega) m)
  have ha0 : dgs M 0 = M % 4294967296 := rfl
  have had := dgs_dig M
  have HO := Lib.hid (fun w => addOneV m (M / 4294967296) (by omega) w)
  have HZ := Lib.hid (fun w => zeroV m (shM M m up) (by omega) w)
  obtain ⟨a, ha⟩ : ∃ a, dgs M = a := ⟨_, rfl⟩
  rw [ha] at HS5 ha0 had ⊢
  have hrest : (decide (0 < a 0) = true ↔ 0 < M % 4294967296) := by rw [ha0]; simp
  have HREST := Lib.hid hrest
  clear ha ha0 hrest
  obtain ⟨R, hRR⟩ : ∃ R, bigC (m && !decide (shM M m up = 0)) (dgs (shM M m up)) = R := ⟨_, rfl⟩
  rw [hRR]
  have HR := Lib.hid hRR
  have HD := Lib.hid had
  clear hRR had
  have hW : ShW w m a big0 (((w.alloc (.cells (bigC m a) 132)).alloc (.cells (bigC false big0) 132)).alloc (.cells (bigC m big0) 132)) :=
    ⟨heap_old _ _ _ (heap_old _ _ _ (heap_alloc_new w _)), heap_old _ _ _ (heap_at1 w _ _), heap_at2 w _ _ _, (((Below.refl _ w).alloc (Nat.le_refl _) _).alloc (by simp) _).alloc (by simp; omega) _⟩
  have HW0 := Lib.hid hW
  have hk0 : ((w.alloc (.cells (bigC m a) 132)).alloc (.cells (bigC false big0) 132)).heap[w.heap.size]? = some (.cells (bigC m a) 132 (0, 0)) := heap_old _ _ _ (heap_alloc_new w _)
  have e0 : ((w.alloc (.cells (bigC m a) 132)).alloc (.cells #[.bool false, .int .i64 0, .int .i64 0, .int .i64 0, .int .i64 0, .int .i64 0, .int .i64 0] 132)).cell? ⟨w.heap.size, 0, none⟩ = some (.bool m) := blk_cell hk0 0
  have e1 : ((w.alloc (.cells (bigC m a) 132)).alloc (.cells #[.bool false, .int .i64 0, .int .i64 0, .int .i64 0, .int .i64 0, .int .i64 0, .int .i64 0] 132)).cell? ⟨w.heap.size, 1, none⟩ = some (.int .i64 (a 0)) := blk_cell hk0 1
  clear hW hk0
  go_enter Try.func102, Try.ntmps102
  go_wp2_with fail
  go_loopw [7] (fun i W => ∃ k : Nat, k ≤ 5 ∧ i = .int .i64 k ∧ ShW w m a (shK a k) W) (fun i _ => 5 - (intOf i).toNat)
  case atStart => exact ⟨0, by omega, rfl, HW0.out⟩
  case round =>
    obtain ⟨k, hk, rfl, hW⟩ := hrel
    have HW := Lib.hid hW
    by_cases hlt : k < 5
    · have ca := big_cell hW.b0 (k + 1) (by omega)
      have cc := big_cell hW.b2 k (by omega)
      have hfz := blk_frozen hW.b2 (1 + k)
      clear hW
      go_wp2_with fail
      refine ⟨⟨k + 1, by omega, by go_num, HW.out.set k (by omega) _⟩, by simp [intOf]; omega⟩
    · obtain rfl : k = 5 := by omega
      have hb2 := hW.b2
      rw [HS5.out] at hb2
      obtain ⟨d, hd⟩ : ∃ d, dgs (M / 4294967296) = d := ⟨_, rfl⟩
      rw [hd] at hb2 HO
      have hWd : ShW w m a d wr := ⟨hW.b0, hW.b1, hb2, hW.bl⟩
      have HWd := Lib.hid hWd
      have HDd := Lib.hid hd
      have hg : w.heap.size ≤ w.heap.size + 1 := by omega
      have hg2 : w.heap.size ≤ w.heap.size + 1 + 1 := by omega
      clear hW hb2 hd HW HS5
      by_cases hr : 0 < M % 4294967296
      · have hd0 : decide (0 < a 0) = true := HREST.out.2 hr
        by_cases hmu : m = up
        · subst hmu
          have HE : Hid (shM M m m = M / 4294967296) := Lib.hid (by unfold shM; rw [if_neg (fun h => by simp at h)])
          rw [HE.out, HDd.out] at HZ
          rw [HE.out, HDd.out] at HR
          clear hr HE
          cases m
          · have hWd := HWd.out
            have c0 : wr.cell? ⟨w.heap.size + 1 + 1, 0, none⟩ = some (Value.bool false) := blk_cell hWd.b2 0
            have c1 : wr.cell? ⟨w.heap.size + 1 + 1, 1, none⟩ = some (Value.int .i64 (d 0)) := blk_cell hWd.b2 1
            have c2 : wr.cell? ⟨w.heap.size + 1 + 1, 2, none⟩ = some (Value.int .i64 (d 1)) := blk_cell hWd.b2 2
            have c3 : wr.cell? ⟨w.heap.size + 1 + 1, 3, none⟩ = some (Value.int .i64 (d 2)) := blk_cell hWd.b2 3
            have c4 : wr.cell? ⟨w.heap.size + 1 + 1, 4, none⟩ = some (Value.int .i64 (d 3)) := blk_cell hWd.b2 4
            have c5 : wr.cell? ⟨w.heap.size + 1 + 1, 5, none⟩ = some (Value.int .i64 (d 4)) := blk_cell hWd.b2 5
            have c6 : wr.cell? ⟨w.heap.size + 1 + 1, 6, none⟩ = some (Value.int .i64 (d 5)) := blk_cell hWd.b2 6
            have y0 : wr.cell? ⟨w.heap.size + 1, 0, none⟩ = some (Value.bool false) := blk_cell hWd.b1 0
            have y1 : wr.cell? ⟨w.heap.size + 1, 1, none⟩ = some (Value.int .i64 0) := blk_cell hWd.b1 1
            have y2 : wr.cell? ⟨w.heap.size + 1, 2, none⟩ = some (Value.int .i64 0) := blk_cell hWd.b1 2
            have y3 : wr.cell? ⟨w.heap.size + 1, 3, none⟩ = some (Value.int .i64 0) := blk_cell hWd.b1 3
            have y4 : wr.cell? ⟨w.heap.size + 1, 4, none⟩ = some (Value.int .i64 0) := blk_cell hWd.b1 4
            have y5 : wr.cell? ⟨w.heap.size + 1, 5, none⟩ = some (Value.int .i64 0) := blk_cell hWd.b1 5
            have y6 : wr.cell? ⟨w.heap.size + 1, 6, none⟩ = some (Value.int .i64 0) := blk_cell hWd.b1 6
            have z0 : wr.frozen? ⟨w.heap.size + 1, 0, none⟩ = false := blk_frozen hWd.b1 0
            have z1 : wr.frozen? ⟨w.heap.size + 1, 1, none⟩ = false := blk_frozen hWd.b1 1
            have z2 : wr.frozen? ⟨w.heap.size + 1, 2, none⟩ = false := blk_frozen hWd.b1 2
            have z3 : wr.frozen? ⟨w.heap.size + 1, 3, none⟩ = false := blk_frozen hWd.b1 3
            have z4 : wr.frozen? ⟨w.heap.size + 1, 4, none⟩ = false := blk_frozen hWd.b1 4
            have z5 : wr.frozen? ⟨w.heap.size + 1, 5, none⟩ = false := blk_frozen hWd.b1 5
            have z6 : wr.frozen? ⟨w.heap.size + 1, 6, none⟩ = false := blk_frozen hWd.b1 6
            have q0 : wr.frozen? ⟨w.heap.size + 1 + 1, 0, none⟩ = false := blk_frozen hWd.b2 0
            have e0 : wr.cell? ⟨w.heap.size, 0, none⟩ = some (Value.bool false) := blk_cell hWd.b0 0
            have hbl := hWd.bl
            have hl2 := blk_lt hWd.b2
            clear hWd
            go_wp2_with fail
            refine (HZ.out _).mono ?_
            rintro e w1 ⟨rfl, hb1⟩
            clear c0 y0 z0 c1 y1 z1 c2 y2 z2 c3 y3 z3 c4 y4 z4 c5 y5 z5 c6 y6 z6 q0 e0 hbl hl2
            have hW1 := HWd.out.below hb1
            have c0 : w1.cell? ⟨w.heap.size + 1 + 1, 0, none⟩ = some (Value.bool false) := blk_cell hW1.b2 0
            have c1 : w1.cell? ⟨w.heap.size + 1 + 1, 1, none⟩ = some (Value.int .i64 (d 0)) := blk_cell hW1.b2 1
            have c2 : w1.cell? ⟨w.heap.size + 1 + 1, 2, none⟩ = some (Value.int .i64 (d 1)) := blk_cell hW1.b2 2
            have c3 : w1.cell? ⟨w.heap.size + 1 + 1, 3, none⟩ = some (Value.int .i64 (d 2)) := blk_cell hW1.b2 3
            have c4 : w1.cell? ⟨w.heap.size + 1 + 1, 4, none⟩ = some (Value.int .i64 (d 3)) := blk_cell hW1.b2 4
            have c5 : w1.cell? ⟨w.heap.size + 1 + 1, 5, none⟩ = some (Value.int .i64 (d 4)) := blk_cell hW1.b2 5
            have c6 : w1.cell? ⟨w.heap.size + 1 + 1, 6, none⟩ = some (Value.int .i64 (d 5)) := blk_cell hW1.b2 6
            have y0 : w1.cell? ⟨w.heap.size + 1, 0, none⟩ = some (Value.bool false) := blk_cell hW1.b1 0
            have y1 : w1.cell? ⟨w.heap.size + 1, 1, none⟩ = some (Value.int .i64 0) := blk_cell hW1.b1 1
            have y2 : w1.cell? ⟨w.heap.size + 1, 2, none⟩ = some (Value.int .i64 0) := blk_cell hW1.b1 2
            have y3 : w1.cell? ⟨w.heap.size + 1, 3, none⟩ = some (Value.int .i64 0) := blk_cell hW1.b1 3
            have y4 : w1.cell? ⟨w.heap.size + 1, 4, none⟩ = some (Value.int .i64 0) := blk_cell hW1.b1 4
            have y5 : w1.cell? ⟨w.heap.size + 1, 5, none⟩ = some (Value.int .i64 0) := blk_cell hW1.b1 5
            have y6 : w1.cell? ⟨w.heap.size + 1, 6, none⟩ = some (Value.int .i64 0) := blk_cell hW1.b1 6
            have z0 : w1.frozen? ⟨w.heap.size + 1, 0, none⟩ = false := blk_frozen hW1.b1 0
            have z1 : w1.frozen? ⟨w.heap.size + 1, 1, none⟩ = false := blk_frozen hW1.b1 1
            have z2 : w1.frozen? ⟨w.heap.size + 1, 2, none⟩ = false := blk_frozen hW1.b1 2
            have z3 : w1.frozen? ⟨w.heap.size + 1, 3, none⟩ = false := blk_frozen hW1.b1 3
            have z4 : w1.frozen? ⟨w.heap.size + 1, 4, none⟩ = false := blk_frozen hW1.b1 4
            have z5 : w1.frozen? ⟨w.heap.size + 1, 5, none⟩ = false := blk_frozen hW1.b1 5
            have z6 : w1.frozen? ⟨w.heap.size + 1, 6, none⟩ = false := blk_frozen hW1.b1 6
            have q0 : w1.frozen? ⟨w.heap.size + 1 + 1, 0, none⟩ = false := blk_frozen hW1.b2 0
            have e0 : w1.cell? ⟨w.heap.size, 0, none⟩ = some (Value.bool false) := blk_cell hW1.b0 0
            have hbl := hW1.bl
            have hl2 := blk_lt hW1.b2
            clear hW1 hb1
            by_cases hz : M / 4294967296 = 0
            · have hz' : decide (M / 4294967296 = 0) = true := decide_eq_true hz
              have HF : Hid (bigC false d = R) := Lib.hid (by rw [← HR.out, hz']; first | rfl | (rw [Bool.not_true, Bool.and_false]))
              clear hz
              go_wp2_with fail
              refine bodyPost_ret (v := .agg #[.bool false, .int .i64 (d 0), .int .i64 (d 1), .int .i64 (d 2), .int .i64 (d 3), .int .i64 (d 4), .int .i64 (d 5)]) (by simp [results, Try.results102, go_sem, *]) rfl ?_
              exact ⟨by rw [← HF.out]; rfl, (((((((hbl.setCell hg2 _).setCell hg _).setCell hg _).setCell hg _).setCell hg _).setCell hg _).setCell hg _).setCell hg _⟩
            · have hz' : decide (M / 4294967296 = 0) = false := decide_eq_false hz
              have HF : Hid (bigC false d = R) := Lib.hid (by rw [← HR.out, hz']; first | rfl | (rw [Bool.not_false, Bool.and_true]))
              clear hz
              go_wp2_with fail
              refine bodyPost_ret (v := .agg #[.bool false, .int .i64 (d 0), .int .i64 (d 1), .int .i64 (d 2), .int .i64 (d 3), .int .i64 (d 4), .int .i64 (d 5)]) (by simp [results, Try.results102, go_sem, *]) rfl ?_
              exact ⟨by rw [← HF.out]; rfl, ((((((hbl.setCell hg _).setCell hg _).setCell hg _).setCell hg _).setCell hg _).setCell hg _).setCell hg _⟩
          · have hWd := HWd.out
            have c0 : wr.cell? ⟨w.heap.size + 1 + 1, 0, none⟩ = some (Value.bool true) := blk_cell hWd.b2 0
            have c1 : wr.cell? ⟨w.heap.size + 1 + 1, 1, none⟩ = some (Value.int .i64 (d 0)) := blk_cell hWd.b2 1
            have c2 : wr.cell? ⟨w.heap.size + 1 + 1, 2, none⟩ = some (Value.int .i64 (d 1)) := blk_cell hWd.b2 2
            have c3 : wr.cell? ⟨w.heap.size + 1 + 1, 3, none⟩ = some (Value.int .i64 (d 2)) := blk_cell hWd.b2 3
            have c4 : wr.cell? ⟨w.heap.size + 1 + 1, 4, none⟩ = some (Value.int .i64 (d 3)) := blk_cell hWd.b2 4
            have c5 : wr.cell? ⟨w.heap.size + 1 + 1, 5, none⟩ = some (Value.int .i64 (d 4)) := blk_cell hWd.b2 5
            have c6 : wr.cell? ⟨w.heap.size + 1 + 1, 6, none⟩ = some (Value.int .i64 (d 5)) := blk_cell hWd.b2 6
            have y0 : wr.cell? ⟨w.heap.size + 1, 0, none⟩ = some (Value.bool false) := blk_cell hWd.b1 0
            have y1 : wr.cell? ⟨w.heap.size + 1, 1, none⟩ = some (Value.int .i64 0) := blk_cell hWd.b1 1
            have y2 : wr.cell? ⟨w.heap.size + 1, 2, none⟩ = some (Value.int .i64 0) := blk_cell hWd.b1 2
            have y3 : wr.cell? ⟨w.heap.size + 1, 3, none⟩ = some (Value.int .i64 0) := blk_cell hWd.b1 3
            have y4 : wr.cell? ⟨w.heap.size + 1, 4, none⟩ = some (Value.int .i64 0) := blk_cell hWd.b1 4
            have y5 : wr.cell? ⟨w.heap.size + 1, 5, none⟩ = some (Value.int .i64 0) := blk_cell hWd.b1 5
            have y6 : wr.cell? ⟨w.heap.size + 1, 6, none⟩ = some (Value.int .i64 0) := blk_cell hWd.b1 6
            have z0 : wr.frozen? ⟨w.heap.size + 1, 0, none⟩ = false := blk_frozen hWd.b1 0
            have z1 : wr.frozen? ⟨w.heap.size + 1, 1, none⟩ = false := blk_frozen hWd.b1 1
            have z2 : wr.frozen? ⟨w.heap.size + 1, 2, none⟩ = false := blk_frozen hWd.b1 2
            have z3 : wr.frozen? ⟨w.heap.size + 1, 3, none⟩ = false := blk_frozen hWd.b1 3
            have z4 : wr.frozen? ⟨w.heap.size + 1, 4, none⟩ = false := blk_frozen hWd.b1 4
            have z5 : wr.frozen? ⟨w.heap.size + 1, 5, none⟩ = false := blk_frozen hWd.b1 5
            have z6 : wr.frozen? ⟨w.heap.size + 1, 6, none⟩ = false := blk_frozen hWd.b1 6
            have q0 : wr.frozen? ⟨w.heap.size + 1 + 1, 0, none⟩ = false := blk_frozen hWd.b2 0
            have e0 : wr.cell? ⟨w.heap.size, 0, none⟩ = some (Value.bool true) := blk_cell hWd.b0 0
            have hbl := hWd.bl
            have hl2 := blk_lt hWd.b2
            clear hWd
            go_wp2_with fail
            refine (HZ.out _).mono ?_
            rintro e w1 ⟨rfl, hb1⟩
            clear c0 y0 z0 c1 y1 z1 c2 y2 z2 c3 y3 z3 c4 y4 z4 c5 y5 z5 c6 y6 z6 q0 e0 hbl hl2
            have hW1 := HWd.out.below hb1
            have c0 : w1.cell? ⟨w.heap.size + 1 + 1, 0, none⟩ = some (Value.bool true) := blk_cell hW1.b2 0
            have c1 : w1.cell? ⟨w.heap.size + 1 + 1, 1, none⟩ = some (Value.int .i64 (d 0)) := blk_cell hW1.b2 1
            have c2 : w1.cell? ⟨w.heap.size + 1 + 1, 2, none⟩ = some (Value.int .i64 (d 1)) := blk_cell hW1.b2 2
            have c3 : w1.cell? ⟨w.heap.size + 1 + 1, 3, none⟩ = some (Value.int .i64 (d 2)) := blk_cell hW1.b2 3
            have c4 : w1.cell? ⟨w.heap.size + 1 + 1, 4, none⟩ = some (Value.int .i64 (d 3)) := blk_cell hW1.b2 4
            have c5 : w1.cell? ⟨w.heap.size + 1 + 1, 5, none⟩ = some (Value.int .i64 (d 4)) := blk_cell hW1.b2 5
            have c6 : w1.cell? ⟨w.heap.size + 1 + 1, 6, none⟩ = some (Value.int .i64 (d 5)) := blk_cell hW1.b2 6
            have y0 : w1.cell? ⟨w.heap.size + 1, 0, none⟩ = some (Value.bool false) := blk_cell hW1.b1 0
            have y1 : w1.cell? ⟨w.heap.size + 1, 1, none⟩ = some (Value.int .i64 0) := blk_cell hW1.b1 1
            have y2 : w1.cell? ⟨w.heap.size + 1, 2, none⟩ = some (Value.int .i64 0) := blk_cell hW1.b1 2
            have y3 : w1.cell? ⟨w.heap.size + 1, 3, none⟩ = some (Value.int .i64 0) := blk_cell hW1.b1 3
            have y4 : w1.cell? ⟨w.heap.size + 1, 4, none⟩ = some (Value.int .i64 0) := blk_cell hW1.b1 4
            have y5 : w1.cell? ⟨w.heap.size + 1, 5, none⟩ = some (Value.int .i64 0) := blk_cell hW1.b1 5
            have y6 : w1.cell? ⟨w.heap.size + 1, 6, none⟩ = some (Value.int .i64 0) := blk_cell hW1.b1 6
            have z0 : w1.frozen? ⟨w.heap.size + 1, 0, none⟩ = false := blk_frozen hW1.b1 0
            have z1 : w1.frozen? ⟨w.heap.size + 1, 1, none⟩ = false := blk_frozen hW1.b1 1
            have z2 : w1.frozen? ⟨w.heap.size + 1, 2, none⟩ = false := blk_frozen hW1.b1 2
            have z3 : w1.frozen? ⟨w.heap.size + 1, 3, none⟩ = false := blk_frozen hW1.b1 3
            have z4 : w1.frozen? ⟨w.heap.size + 1, 4, none⟩ = false := blk_frozen hW1.b1 4
            have z5 : w1.frozen? ⟨w.heap.size + 1, 5, none⟩ = false := blk_frozen hW1.b1 5
            have z6 : w1.frozen? ⟨w.heap.size + 1, 6, none⟩ = false := blk_frozen hW1.b1 6
            have q0 : w1.frozen? ⟨w.heap.size + 1 + 1, 0, none⟩ = false := blk_frozen hW1.b2 0
            have e0 : w1.cell? ⟨w.heap.size, 0, none⟩ = some (Value.bool true) := blk_cell hW1.b0 0
            have hbl := hW1.bl
            have hl2 := blk_lt hW1.b2
            clear hW1 hb1
            by_cases hz : M / 4294967296 = 0
            · have hz' : decide (M / 4294967296 = 0) = true := decide_eq_true hz
              have HF : Hid (bigC false d = R) := Lib.hid (by rw [← HR.out, hz']; first | rfl | (rw [Bool.not_true, Bool.and_false]))
              clear hz
              go_wp2_with fail
              refine bodyPost_ret (v := .agg #[.bool false, .int .i64 (d 0), .int .i64 (d 1), .int .i64 (d 2), .int .i64 (d 3), .int .i64 (d 4), .int .i64 (d 5)]) (by simp [results, Try.results102, go_sem, *]) rfl ?_
              exact ⟨by rw [← HF.out]; rfl, (((((((hbl.setCell hg2 _).setCell hg _).setCell hg _).setCell hg _).setCell hg _).setCell hg _).setCell hg _).setCell hg _⟩
            · have hz' : decide (M / 4294967296 = 0) = false := decide_eq_false hz
              have HF : Hid (bigC true d = R) := Lib.hid (by rw [← HR.out, hz']; first | rfl | (rw [Bool.not_false, Bool.and_true]))
              clear hz
              go_wp2_with fail
              refine bodyPost_ret (v := .agg #[.bool true, .int .i64 (d 0), .int .i64 (d 1), .int .i64 (d 2), .int .i64 (d 3), .int .i64 (d 4), .int .i64 (d 5)]) (by simp [results, Try.results102, go_sem, *]) rfl ?_
              exact ⟨by rw [← HF.out]; rfl, ((((((hbl.setCell hg _).setCell hg _).setCell hg _).setCell hg _).setCell hg _).setCell hg _).setCell hg _⟩
        · have HE : Hid (shM M m up = M / 4294967296 + 1) := Lib.hid (by unfold shM; rw [if_pos ⟨hr, bne_iff_ne.2 hmu⟩])
          have hne : M / 4294967296 + 1 ≠ 0 := by omega
          obtain ⟨d2, hd2⟩ : ∃ d2, dgs (M / 4294967296 + 1) = d2 := ⟨_, rfl⟩
          rw [HE.out, hd2, decide_eq_false hne] at HR HZ
          rw [hd2] at HO
          have h2 : (m = true ∧ up = false) ∨ (m = false ∧ up = true) := by cases m <;> cases up <;> simp_all
          clear hr HE hmu hd2
          rcases h2 with ⟨rfl, rfl⟩ | ⟨rfl, rfl⟩
          · have hWd := HWd.out
            have c0 : wr.cell? ⟨w.heap.size + 1 + 1, 0, none⟩ = some (Value.bool true) := blk_cell hWd.b2 0
            have c1 : wr.cell? ⟨w.heap.size + 1 + 1, 1, none⟩ = some (Value.int .i64 (d 0)) := blk_cell hWd.b2 1
            have c2 : wr.cell? ⟨w.heap.size + 1 + 1, 2, none⟩ = some (Value.int .i64 (d 1)) := blk_cell hWd.b2 2
            have c3 : wr.cell? ⟨w.heap.size + 1 + 1, 3, none⟩ = some (Value.int .i64 (d 2)) := blk_cell hWd.b2 3
            have c4 : wr.cell? ⟨w.heap.size + 1 + 1, 4, none⟩ = some (Value.int .i64 (d 3)) := blk_cell hWd.b2 4
            have c5 : wr.cell? ⟨w.heap.size + 1 + 1, 5, none⟩ = some (Value.int .i64 (d 4)) := blk_cell hWd.b2 5
            have c6 : wr.cell? ⟨w.heap.size + 1 + 1, 6, none⟩ = some (Value.int .i64 (d 5)) := blk_cell hWd.b2 6
            have y0 : wr.cell? ⟨w.heap.size + 1, 0, none⟩ = some (Value.bool false) := blk_cell hWd.b1 0
            have y1 : wr.cell? ⟨w.heap.size + 1, 1, none⟩ = some (Value.int .i64 0) := blk_cell hWd.b1 1
            have y2 : wr.cell? ⟨w.heap.size + 1, 2, none⟩ = some (Value.int .i64 0) := blk_cell hWd.b1 2
            have y3 : wr.cell? ⟨w.heap.size + 1, 3, none⟩ = some (Value.int .i64 0) := blk_cell hWd.b1 3
            have y4 : wr.cell? ⟨w.heap.size + 1, 4, none⟩ = some (Value.int .i64 0) := blk_cell hWd.b1 4
            have y5 : wr.cell? ⟨w.heap.size + 1, 5, none⟩ = some (Value.int .i64 0) := blk_cell hWd.b1 5
            have y6 : wr.cell? ⟨w.heap.size + 1, 6, none⟩ = some (Value.int .i64 0) := blk_cell hWd.b1 6
            have z0 : wr.frozen? ⟨w.heap.size + 1, 0, none⟩ = false := blk_frozen hWd.b1 0
            have z1 : wr.frozen? ⟨w.heap.size + 1, 1, none⟩ = false := blk_frozen hWd.b1 1
            have z2 : wr.frozen? ⟨w.heap.size + 1, 2, none⟩ = false := blk_frozen hWd.b1 2
            have z3 : wr.frozen? ⟨w.heap.size + 1, 3, none⟩ = false := blk_frozen hWd.b1 3
            have z4 : wr.frozen? ⟨w.heap.size + 1, 4, none⟩ = false := blk_frozen hWd.b1 4
            have z5 : wr.frozen? ⟨w.heap.size + 1, 5, none⟩ = false := blk_frozen hWd.b1 5
            have z6 : wr.frozen? ⟨w.heap.size + 1, 6, none⟩ = false := blk_frozen hWd.b1 6
            have q0 : wr.frozen? ⟨w.heap.size + 1 + 1, 0, none⟩ = false := blk_frozen hWd.b2 0
            have e0 : wr.cell? ⟨w.heap.size, 0, none⟩ = some (Value.bool true) := blk_cell hWd.b0 0
            have hbl := hWd.bl
            have hl2 := blk_lt hWd.b2
            clear hWd
            go_wp2_with fail
            refine (HO.out _).mono ?_
            rintro e w1 ⟨he, hb1⟩
            obtain rfl : e = .returned (.agg #[.bool true, .int .i64 (d2 0), .int .i64 (d2 1), .int .i64 (d2 2), .int .i64 (d2 3), .int .i64 (d2 4), .int .i64 (d2 5)]) := he
            clear c0 y0 z0 c1 y1 z1 c2 y2 z2 c3 y3 z3 c4 y4 z4 c5 y5 z5 c6 y6 z6 q0 e0 hbl hl2
            have hW1 := HWd.out.below hb1
            have HW1 := Lib.hid hW1
            clear hb1
            have c0 : w1.cell? ⟨w.heap.size + 1 + 1, 0, none⟩ = some (Value.bool true) := blk_cell hW1.b2 0
            have c1 : w1.cell? ⟨w.heap.size + 1 + 1, 1, none⟩ = some (Value.int .i64 (d 0)) := blk_cell hW1.b2 1
            have c2 : w1.cell? ⟨w.heap.size + 1 + 1, 2, none⟩ = some (Value.int .i64 (d 1)) := blk_cell hW1.b2 2
            have c3 : w1.cell? ⟨w.heap.size + 1 + 1, 3, none⟩ = some (Value.int .i64 (d 2)) := blk_cell hW1.b2 3
            have c4 : w1.cell? ⟨w.heap.size + 1 + 1, 4, none⟩ = some (Value.int .i64 (d 3)) := blk_cell hW1.b2 4
            have c5 : w1.cell? ⟨w.heap.size + 1 + 1, 5, none⟩ = some (Value.int .i64 (d 4)) := blk_cell hW1.b2 5
            have c6 : w1.cell? ⟨w.heap.size + 1 + 1, 6, none⟩ = some (Value.int .i64 (d 5)) := blk_cell hW1.b2 6
            have y0 : w1.cell? ⟨w.heap.size + 1, 0, none⟩ = some (Value.bool false) := blk_cell hW1.b1 0
            have y1 : w1.cell? ⟨w.heap.size + 1, 1, none⟩ = some (Value.int .i64 0) := blk_cell hW1.b1 1
            have y2 : w1.cell? ⟨w.heap.size + 1, 2, none⟩ = some (Value.int .i64 0) := blk_cell hW1.b1 2
            have y3 : w1.cell? ⟨w.heap.size + 1, 3, none⟩ = some (Value.int .i64 0) := blk_cell hW1.b1 3
            have y4 : w1.cell? ⟨w.heap.size + 1, 4, none⟩ = some (Value.int .i64 0) := blk_cell hW1.b1 4
            have y5 : w1.cell? ⟨w.heap.size + 1, 5, none⟩ = some (Value.int .i64 0) := blk_cell hW1.b1 5
            have y6 : w1.cell? ⟨w.heap.size + 1, 6, none⟩ = some (Value.int .i64 0) := blk_cell hW1.b1 6
            have z0 : w1.frozen? ⟨w.heap.size + 1, 0, none⟩ = false := blk_frozen hW1.b1 0
            have z1 : w1.frozen? ⟨w.heap.size + 1, 1, none⟩ = false := blk_frozen hW1.b1 1
            have z2 : w1.frozen? ⟨w.heap.size + 1, 2, none⟩ = false := blk_frozen hW1.b1 2
            have z3 : w1.frozen? ⟨w.heap.size + 1, 3, none⟩ = false := blk_frozen hW1.b1 3
            have z4 : w1.frozen? ⟨w.heap.size + 1, 4, none⟩ = false := blk_frozen hW1.b1 4
            have z5 : w1.frozen? ⟨w.heap.size + 1, 5, none⟩ = false := blk_frozen hW1.b1 5
            have z6 : w1.frozen? ⟨w.heap.size + 1, 6, none⟩ = false := blk_frozen hW1.b1 6
            have q0 : w1.frozen? ⟨w.heap.size + 1 + 1, 0, none⟩ = false := blk_frozen hW1.b2 0
            have e0 : w1.cell? ⟨w.heap.size, 0, none⟩ = some (Value.bool true) := blk_cell hW1.b0 0
            have hbl := hW1.bl
            have hl2 := blk_lt hW1.b2
            have r0 : w1.frozen? ⟨w.heap.size + 1 + 1, 0, none⟩ = false := blk_frozen hW1.b2 0
            have r1 : w1.frozen? ⟨w.heap.size + 1 + 1, 1, none⟩ = false := blk_frozen hW1.b2 1
            have r2 : w1.frozen? ⟨w.heap.size + 1 + 1, 2, none⟩ = false := blk_frozen hW1.b2 2
            have r3 : w1.frozen? ⟨w.heap.size + 1 + 1, 3, none⟩ = false := blk_frozen hW1.b2 3
            have r4 : w1.frozen? ⟨w.heap.size + 1 + 1, 4, none⟩ = false := blk_frozen hW1.b2 4
            have r5 : w1.frozen? ⟨w.heap.size + 1 + 1, 5, none⟩ = false := blk_frozen hW1.b2 5
            have r6 : w1.frozen? ⟨w.heap.size + 1 + 1, 6, none⟩ = false := blk_frozen hW1.b2 6
            clear hW1
            go_wp2_with fail
            generalize hWf : World.setCell _ ⟨w.heap.size + 1 + 1, 6, none⟩ _ = Wf
            have hF2 : Wf.heap[w.heap.size + 1 + 1]? = some (.cells (bigC true d2) 132 (0, 0)) := by rw [← hWf]; exact big_store HW1.out.b2
            have hF1 : Wf.heap[w.heap.size + 1]? = some (.cells (bigC false big0) 132 (0, 0)) := by
              rw [← hWf]
              repeat (rw [Below.heap_setCell _ _ _ _ (by show w.heap.size + 1 ≠ w.heap.size + 1 + 1; omega)])
              exact HW1.out.b1
            have hF0 : Wf.heap[w.heap.size]? = some (.cells (bigC true a) 132 (0, 0)) := by
              rw [← hWf]
              repeat (rw [Below.heap_setCell _ _ _ _ (by show w.heap.size ≠ w.heap.size + 1 + 1; omega)])
              exact HW1.out.b0
            have hFb : Below w.heap.size w Wf := by
              rw [← hWf]
              repeat' (refine Below.setCell ?_ (by exact hg2) _)
              exact HW1.out.bl
            clear hWf c0 y0 z0 c1 y1 z1 c2 y2 z2 c3 y3 z3 c4 y4 z4 c5 y5 z5 c6 y6 z6 q0 e0 hbl hl2 r0 r1 r2 r3 r4 r5 r6
            have HWf := Lib.hid (ShW.mk (a := a) hF0 hF1 hF2 hFb)
            clear hF0 hF1 hF2 hFb
            refine (HZ.out _).mono ?_
            rintro e w2 ⟨rfl, hb2⟩
            have hW2 := HWf.out.below hb2
            have c0 : w2.cell? ⟨w.heap.size + 1 + 1, 0, none⟩ = some (Value.bool true) := blk_cell hW2.b2 0
            have c1 : w2.cell? ⟨w.heap.size + 1 + 1, 1, none⟩ = some (Value.int .i64 (d2 0)) := blk_cell hW2.b2 1
            have c2 : w2.cell? ⟨w.heap.size + 1 + 1, 2, none⟩ = some (Value.int .i64 (d2 1)) := blk_cell hW2.b2 2
            have c3 : w2.cell? ⟨w.heap.size + 1 + 1, 3, none⟩ = some (Value.int .i64 (d2 2)) := blk_cell hW2.b2 3
            have c4 : w2.cell? ⟨w.heap.size + 1 + 1, 4, none⟩ = some (Value.int .i64 (d2 3)) := blk_cell hW2.b2 4
            have c5 : w2.cell? ⟨w.heap.size + 1 + 1, 5, none⟩ = some (Value.int .i64 (d2 4)) := blk_cell hW2.b2 5
            have c6 : w2.cell? ⟨w.heap.size + 1 + 1, 6, none⟩ = some (Value.int .i64 (d2 5)) := blk_cell hW2.b2 6
            have y0 : w2.cell? ⟨w.heap.size + 1, 0, none⟩ = some (Value.bool false) := blk_cell hW2.b1 0
            have y1 : w2.cell? ⟨w.heap.size + 1, 1, none⟩ = some (Value.int .i64 0) := blk_cell hW2.b1 1
            have y2 : w2.cell? ⟨w.heap.size + 1, 2, none⟩ = some (Value.int .i64 0) := blk_cell hW2.b1 2
            have y3 : w2.cell? ⟨w.heap.size + 1, 3, none⟩ = some (Value.int .i64 0) := blk_cell hW2.b1 3
            have y4 : w2.cell? ⟨w.heap.size + 1, 4, none⟩ = some (Value.int .i64 0) := blk_cell hW2.b1 4
            have y5 : w2.cell? ⟨w.heap.size + 1, 5, none⟩ = some (Value.int .i64 0) := blk_cell hW2.b1 5
            have y6 : w2.cell? ⟨w.heap.size + 1, 6, none⟩ = some (Value.int .i64 0) := blk_cell hW2.b1 6
            have z0 : w2.frozen? ⟨w.heap.size + 1, 0, none⟩ = false := blk_frozen hW2.b1 0
            have z1 : w2.frozen? ⟨w.heap.size + 1, 1, none⟩ = false := blk_frozen hW2.b1 1
            have z2 : w2.frozen? ⟨w.heap.size + 1, 2, none⟩ = false := blk_frozen hW2.b1 2
            have z3 : w2.frozen? ⟨w.heap.size + 1, 3, none⟩ = false := blk_frozen hW2.b1 3
            have z4 : w2.frozen? ⟨w.heap.size + 1, 4, none⟩ = false := blk_frozen hW2.b1 4
            have z5 : w2.frozen? ⟨w.heap.size + 1, 5, none⟩ = false := blk_frozen hW2.b1 5
            have z6 : w2.frozen? ⟨w.heap.size + 1, 6, none⟩ = false := blk_frozen hW2.b1 6
            have q0 : w2.frozen? ⟨w.heap.size + 1 + 1, 0, none⟩ = false := blk_frozen hW2.b2 0
            have e0 : w2.cell? ⟨w.heap.size, 0, none⟩ = some (Value.bool true) := blk_cell hW2.b0 0
            have hbl := hW2.bl
            have hl2 := blk_lt hW2.b2
            clear hW2 hb2
            go_wp2_with fail
            refine bodyPost_ret (v := .agg #[.bool true, .int .i64 (d2 0), .int .i64 (d2 1), .int .i64 (d2 2), .int .i64 (d2 3), .int .i64 (d2 4), .int .i64 (d2 5)]) (by simp [results, Try.results102, go_sem, *]) rfl ?_
            exact ⟨by rw [← HR.out]; rfl, ((((((hbl.setCell hg _).setCell hg _).setCell hg _).setCell hg _).setCell hg _).setCell hg _).setCell hg _⟩
          · have hWd := HWd.out
            have c0 : wr.cell? ⟨w.heap.size + 1 + 1, 0, none⟩ = some (Value.bool false) := blk_cell hWd.b2 0
            have c1 : wr.cell? ⟨w.heap.size + 1 + 1, 1, none⟩ = some (Value.int .i64 (d 0)) := blk_cell hWd.b2 1
            have c2 : wr.cell? ⟨w.heap.size + 1 + 1, 2, none⟩ = some (Value.int .i64 (d 1)) := blk_cell hWd.b2 2
            have c3 : wr.cell? ⟨w.heap.size + 1 + 1, 3, none⟩ = some (Value.int .i64 (d 2)) := blk_cell hWd.b2 3
            have c4 : wr.cell? ⟨w.heap.size + 1 + 1, 4, none⟩ = some (Value.int .i64 (d 3)) := blk_cell hWd.b2 4
            have c5 : wr.cell? ⟨w.heap.size + 1 + 1, 5, none⟩ = some (Value.int .i64 (d 4)) := blk_cell hWd.b2 5
            have c6 : wr.cell? ⟨w.heap.size + 1 + 1, 6, none⟩ = some (Value.int .i64 (d 5)) := blk_cell hWd.b2 6
            have y0 : wr.cell? ⟨w.heap.size + 1, 0, none⟩ = some (Value.bool false) := blk_cell hWd.b1 0
            have y1 : wr.cell? ⟨w.heap.size + 1, 1, none⟩ = some (Value.int .i64 0) := blk_cell hWd.b1 1
            have y2 : wr.cell? ⟨w.heap.size + 1, 2, none⟩ = some (Value.int .i64 0) := blk_cell hWd.b1 2
            have y3 : wr.cell? ⟨w.heap.size + 1, 3, none⟩ = some (Value.int .i64 0) := blk_cell hWd.b1 3
            have y4 : wr.cell? ⟨w.heap.size + 1, 4, none⟩ = some (Value.int .i64 0) := blk_cell hWd.b1 4
            have y5 : wr.cell? ⟨w.heap.size + 1, 5, none⟩ = some (Value.int .i64 0) := blk_cell hWd.b1 5
            have y6 : wr.cell? ⟨w.heap.size + 1, 6, none⟩ = some (Value.int .i64 0) := blk_cell hWd.b1 6
            have z0 : wr.frozen? ⟨w.heap.size + 1, 0, none⟩ = false := blk_frozen hWd.b1 0
            have z1 : wr.frozen? ⟨w.heap.size + 1, 1, none⟩ = false := blk_frozen hWd.b1 1
            have z2 : wr.frozen? ⟨w.heap.size + 1, 2, none⟩ = false := blk_frozen hWd.b1 2
            have z3 : wr.frozen? ⟨w.heap.size + 1, 3, none⟩ = false := blk_frozen hWd.b1 3
            have z4 : wr.frozen? ⟨w.heap.size + 1, 4, none⟩ = false := blk_frozen hWd.b1 4
            have z5 : wr.frozen? ⟨w.heap.size + 1, 5, none⟩ = false := blk_frozen hWd.b1 5
            have z6 : wr.frozen? ⟨w.heap.size + 1, 6, none⟩ = false := blk_frozen hWd.b1 6
            have q0 : wr.frozen? ⟨w.heap.size + 1 + 1, 0, none⟩ = false := blk_frozen hWd.b2 0
            have e0 : wr.cell? ⟨w.heap.size, 0, none⟩ = some (Value.bool false) := blk_cell hWd.b0 0
            have hbl := hWd.bl
            have hl2 := blk_lt hWd.b2
            clear hWd
            go_wp2_with fail
            refine (HO.out _).mono ?_
            rintro e w1 ⟨he, hb1⟩
            obtain rfl : e = .returned (.agg #[.bool false, .int .i64 (d2 0), .int .i64 (d2 1), .int .i64 (d2 2), .int .i64 (d2 3), .int .i64 (d2 4), .int .i64 (d2 5)]) := he
            clear c0 y0 z0 c1 y1 z1 c2 y2 z2 c3 y3 z3 c4 y4 z4 c5 y5 z5 c6 y6 z6 q0 e0 hbl hl2
            have hW1 := HWd.out.below hb1
            have HW1 := Lib.hid hW1
            clear hb1
            have c0 : w1.cell? ⟨w.heap.size + 1 + 1, 0, none⟩ = some (Value.bool false) := blk_cell hW1.b2 0
            have c1 : w1.cell? ⟨w.heap.size + 1 + 1, 1, none⟩ = some (Value.int .i64 (d 0)) := blk_cell hW1.b2 1
            have c2 : w1.cell? ⟨w.heap.size + 1 + 1, 2, none⟩ = some (Value.int .i64 (d 1)) := blk_cell hW1.b2 2
            have c3 : w1.cell? ⟨w.heap.size + 1 + 1, 3, none⟩ = some (Value.int .i64 (d 2)) := blk_cell hW1.b2 3
            have c4 : w1.cell? ⟨w.heap.size + 1 + 1, 4, none⟩ = some (Value.int .i64 (d 3)) := blk_cell hW1.b2 4
            have c5 : w1.cell? ⟨w.heap.size + 1 + 1, 5, none⟩ = some (Value.int .i64 (d 4)) := blk_cell hW1.b2 5
            have c6 : w1.cell? ⟨w.heap.size + 1 + 1, 6, none⟩ = some (Value.int .i64 (d 5)) := blk_cell hW1.b2 6
            have y0 : w1.cell? ⟨w.heap.size + 1, 0, none⟩ = some (Value.bool false) := blk_cell hW1.b1 0
            have y1 : w1.cell? ⟨w.heap.size + 1, 1, none⟩ = some (Value.int .i64 0) := blk_cell hW1.b1 1
            have y2 : w1.cell? ⟨w.heap.size + 1, 2, none⟩ = some (Value.int .i64 0) := blk_cell hW1.b1 2
            have y3 : w1.cell? ⟨w.heap.size + 1, 3, none⟩ = some (Value.int .i64 0) := blk_cell hW1.b1 3
            have y4 : w1.cell? ⟨w.heap.size + 1, 4, none⟩ = some (Value.int .i64 0) := blk_cell hW1.b1 4
            have y5 : w1.cell? ⟨w.heap.size + 1, 5, none⟩ = some (Value.int .i64 0) := blk_cell hW1.b1 5
            have y6 : w1.cell? ⟨w.heap.size + 1, 6, none⟩ = some (Value.int .i64 0) := blk_cell hW1.b1 6
            have z0 : w1.frozen? ⟨w.heap.size + 1, 0, none⟩ = false := blk_frozen hW1.b1 0
            have z1 : w1.frozen? ⟨w.heap.size + 1, 1, none⟩ = false := blk_frozen hW1.b1 1
            have z2 : w1.frozen? ⟨w.heap.size + 1, 2, none⟩ = false := blk_frozen hW1.b1 2
            have z3 : w1.frozen? ⟨w.heap.size + 1, 3, none⟩ = false := blk_frozen hW1.b1 3
            have z4 : w1.frozen? ⟨w.heap.size + 1, 4, none⟩ = false := blk_frozen hW1.b1 4
            have z5 : w1.frozen? ⟨w.heap.size + 1, 5, none⟩ = false := blk_frozen hW1.b1 5
            have z6 : w1.frozen? ⟨w.heap.size + 1, 6, none⟩ = false := blk_frozen hW1.b1 6
            have q0 : w1.frozen? ⟨w.heap.size + 1 + 1, 0, none⟩ = false := blk_frozen hW1.b2 0
            have e0 : w1.cell? ⟨w.heap.size, 0, none⟩ = some (Value.bool false) := blk_cell hW1.b0 0
            have hbl := hW1.bl
            have hl2 := blk_lt hW1.b2
            have r0 : w1.frozen? ⟨w.heap.size + 1 + 1, 0, none⟩ = false := blk_frozen hW1.b2 0
            have r1 : w1.frozen? ⟨w.heap.size + 1 + 1, 1, none⟩ = false := blk_frozen hW1.b2 1
            have r2 : w1.frozen? ⟨w.heap.size + 1 + 1, 2, none⟩ = false := blk_frozen hW1.b2 2
            have r3 : w1.frozen? ⟨w.heap.size + 1 + 1, 3, none⟩ = false := blk_frozen hW1.b2 3
            have r4 : w1.frozen? ⟨w.heap.size + 1 + 1, 4, none⟩ = false := blk_frozen hW1.b2 4
            have r5 : w1.frozen? ⟨w.heap.size + 1 + 1, 5, none⟩ = false := blk_frozen hW1.b2 5
            have r6 : w1.frozen? ⟨w.heap.size + 1 + 1, 6, none⟩ = false := blk_frozen hW1.b2 6
            clear hW1
            go_wp2_with fail
            generalize hWf : World.setCell _ ⟨w.heap.size + 1 + 1, 6, none⟩ _ = Wf
            have hF2 : Wf.heap[w.heap.size + 1 + 1]? = some (.cells (bigC false d2) 132 (0, 0)) := by rw [← hWf]; exact big_store HW1.out.b2
            have hF1 : Wf.heap[w.heap.size + 1]? = some (.cells (bigC false big0) 132 (0, 0)) := by
              rw [← hWf]
              repeat (rw [Below.heap_setCell _ _ _ _ (by show w.heap.size + 1 ≠ w.heap.size + 1 + 1; omega)])
              exact HW1.out.b1
            have hF0 : Wf.heap[w.heap.size]? = some (.cells (bigC false a) 132 (0, 0)) := by
              rw [← hWf]
              repeat (rw [Below.heap_setCell _ _ _ _ (by show w.heap.size ≠ w.heap.size + 1 + 1; omega)])
              exact HW1.out.b0
            have hFb : Below w.heap.size w Wf := by
              rw [← hWf]
              repeat' (refine Below.setCell ?_ (by exact hg2) _)
              exact HW1.out.bl
            clear hWf c0 y0 z0 c1 y1 z1 c2 y2 z2 c3 y3 z3 c4 y4 z4 c5 y5 z5 c6 y6 z6 q0 e0 hbl hl2 r0 r1 r2 r3 r4 r5 r6
            have HWf := Lib.hid (ShW.mk (a := a) hF0 hF1 hF2 hFb)
            clear hF0 hF1 hF2 hFb
            refine (HZ.out _).mono ?_
            rintro e w2 ⟨rfl, hb2⟩
            have hW2 := HWf.out.below hb2
            have c0 : w2.cell? ⟨w.heap.size + 1 + 1, 0, none⟩ = some (Value.bool false) := blk_cell hW2.b2 0
            have c1 : w2.cell? ⟨w.heap.size + 1 + 1, 1, none⟩ = some (Value.int .i64 (d2 0)) := blk_cell hW2.b2 1
            have c2 : w2.cell? ⟨w.heap.size + 1 + 1, 2, none⟩ = some (Value.int .i64 (d2 1)) := blk_cell hW2.b2 2
            have c3 : w2.cell? ⟨w.heap.size + 1 + 1, 3, none⟩ = some (Value.int .i64 (d2 2)) := blk_cell hW2.b2 3
            have c4 : w2.cell? ⟨w.heap.size + 1 + 1, 4, none⟩ = some (Value.int .i64 (d2 3)) := blk_cell hW2.b2 4
            have c5 : w2.cell? ⟨w.heap.size + 1 + 1, 5, none⟩ = some (Value.int .i64 (d2 4)) := blk_cell hW2.b2 5
            have c6 : w2.cell? ⟨w.heap.size + 1 + 1, 6, none⟩ = some (Value.int .i64 (d2 5)) := blk_cell hW2.b2 6
            have y0 : w2.cell? ⟨w.heap.size + 1, 0, none⟩ = some (Value.bool false) := blk_cell hW2.b1 0
            have y1 : w2.cell? ⟨w.heap.size + 1, 1, none⟩ = some (Value.int .i64 0) := blk_cell hW2.b1 1
            have y2 : w2.cell? ⟨w.heap.size + 1, 2, none⟩ = some (Value.int .i64 0) := blk_cell hW2.b1 2
            have y3 : w2.cell? ⟨w.heap.size + 1, 3, none⟩ = some (Value.int .i64 0) := blk_cell hW2.b1 3
            have y4 : w2.cell? ⟨w.heap.size + 1, 4, none⟩ = some (Value.int .i64 0) := blk_cell hW2.b1 4
            have y5 : w2.cell? ⟨w.heap.size + 1, 5, none⟩ = some (Value.int .i64 0) := blk_cell hW2.b1 5
            have y6 : w2.cell? ⟨w.heap.size + 1, 6, none⟩ = some (Value.int .i64 0) := blk_cell hW2.b1 6
            have z0 : w2.frozen? ⟨w.heap.size + 1, 0, none⟩ = false := blk_frozen hW2.b1 0
            have z1 : w2.frozen? ⟨w.heap.size + 1, 1, none⟩ = false := blk_frozen hW2.b1 1
            have z2 : w2.frozen? ⟨w.heap.size + 1, 2, none⟩ = false := blk_frozen hW2.b1 2
            have z3 : w2.frozen? ⟨w.heap.size + 1, 3, none⟩ = false := blk_frozen hW2.b1 3
            have z4 : w2.frozen? ⟨w.heap.size + 1, 4, none⟩ = false := blk_frozen hW2.b1 4
            have z5 : w2.frozen? ⟨w.heap.size + 1, 5, none⟩ = false := blk_frozen hW2.b1 5
            have z6 : w2.frozen? ⟨w.heap.size + 1, 6, none⟩ = false := blk_frozen hW2.b1 6
            have q0 : w2.frozen? ⟨w.heap.size + 1 + 1, 0, none⟩ = false := blk_frozen hW2.b2 0
            have e0 : w2.cell? ⟨w.heap.size, 0, none⟩ = some (Value.bool false) := blk_cell hW2.b0 0
            have hbl := hW2.bl
            have hl2 := blk_lt hW2.b2
            clear hW2 hb2
            go_wp2_with fail
            refine bodyPost_ret (v := .agg #[.bool false, .int .i64 (d2 0), .int .i64 (d2 1), .int .i64 (d2 2), .int .i64 (d2 3), .int .i64 (d2 4), .int .i64 (d2 5)]) (by simp [results, Try.results102, go_sem, *]) rfl ?_
            exact ⟨by rw [← HR.out]; rfl, ((((((hbl.setCell hg _).setCell hg _).setCell hg _).setCell hg _).setCell hg _).setCell hg _).setCell hg _⟩
      · have hd0 : decide (0 < a 0) = false := Bool.eq_false_iff.2 (fun h => hr (HREST.out.1 h))
        have HE : Hid (shM M m up = M / 4294967296) := Lib.hid (by unfold shM; rw [if_neg (fun h => hr h.1)])
        rw [HE.out, HDd.out] at HZ
        rw [HE.out, HDd.out] at HR
        clear hr HE
        have hWd := HWd.out
        have c0 : wr.cell? ⟨w.heap.size + 1 + 1, 0, none⟩ = some (Value.bool m) := blk_cell hWd.b2 0
        have c1 : wr.cell? ⟨w.heap.size + 1 + 1, 1, none⟩ = some (Value.int .i64 (d 0)) := blk_cell hWd.b2 1
        have c2 : wr.cell? ⟨w.heap.size + 1 + 1, 2, none⟩ = some (Value.int .i64 (d 1)) := blk_cell hWd.b2 2
        have c3 : wr.cell? ⟨w.heap.size + 1 + 1, 3, none⟩ = some (Value.int .i64 (d 2)) := blk_cell hWd.b2 3
        have c4 : wr.cell? ⟨w.heap.size + 1 + 1, 4, none⟩ = some (Value.int .i64 (d 3)) := blk_cell hWd.b2 4
        have c5 : wr.cell? ⟨w.heap.size + 1 + 1, 5, none⟩ = some (Value.int .i64 (d 4)) := blk_cell hWd.b2 5
        have c6 : wr.cell? ⟨w.heap.size + 1 + 1, 6, none⟩ = some (Value.int .i64 (d 5)) := blk_cell hWd.b2 6
        have y0 : wr.cell? ⟨w.heap.size + 1, 0, none⟩ = some (Value.bool false) := blk_cell hWd.b1 0
        have y1 : wr.cell? ⟨w.heap.size + 1, 1, none⟩ = some (Value.int .i64 0) := blk_cell hWd.b1 1
        have y2 : wr.cell? ⟨w.heap.size + 1, 2, none⟩ = some (Value.int .i64 0) := blk_cell hWd.b1 2
        have y3 : wr.cell? ⟨w.heap.size + 1, 3, none⟩ = some (Value.int .i64 0) := blk_cell hWd.b1 3
        have y4 : wr.cell? ⟨w.heap.size + 1, 4, none⟩ = some (Value.int .i64 0) := blk_cell hWd.b1 4
        have y5 : wr.cell? ⟨w.heap.size + 1, 5, none⟩ = some (Value.int .i64 0) := blk_cell hWd.b1 5
        have y6 : wr.cell? ⟨w.heap.size + 1, 6, none⟩ = some (Value.int .i64 0) := blk_cell hWd.b1 6
        have z0 : wr.frozen? ⟨w.heap.size + 1, 0, none⟩ = false := blk_frozen hWd.b1 0
        have z1 : wr.frozen? ⟨w.heap.size + 1, 1, none⟩ = false := blk_frozen hWd.b1 1
        have z2 : wr.frozen? ⟨w.heap.size + 1, 2, none⟩ = false := blk_frozen hWd.b1 2
        have z3 : wr.frozen? ⟨w.heap.size + 1, 3, none⟩ = false := blk_frozen hWd.b1 3
        have z4 : wr.frozen? ⟨w.heap.size + 1, 4, none⟩ = false := blk_frozen hWd.b1 4
        have z5 : wr.frozen? ⟨w.heap.size + 1, 5, none⟩ = false := blk_frozen hWd.b1 5
        have z6 : wr.frozen? ⟨w.heap.size + 1, 6, none⟩ = false := blk_frozen hWd.b1 6
        have q0 : wr.frozen? ⟨w.heap.size + 1 + 1, 0, none⟩ = false := blk_frozen hWd.b2 0
        have e0 : wr.cell? ⟨w.heap.size, 0, none⟩ = some (Value.bool m) := blk_cell hWd.b0 0
        have hbl := hWd.bl
        have hl2 := blk_lt hWd.b2
        clear hWd
        go_wp2_with fail
        refine (HZ.out _).mono ?_
        rintro e w1 ⟨rfl, hb1⟩
        clear c0 y0 z0 c1 y1 z1 c2 y2 z2 c3 y3 z3 c4 y4 z4 c5 y5 z5 c6 y6 z6 q0 e0 hbl hl2
        have hW1 := HWd.out.below hb1
        have c0 : w1.cell? ⟨w.heap.size + 1 + 1, 0, none⟩ = some (Value.bool m) := blk_cell hW1.b2 0
        have c1 : w1.cell? ⟨w.heap.size + 1 + 1, 1, none⟩ = some (Value.int .i64 (d 0)) := blk_cell hW1.b2 1
        have c2 : w1.cell? ⟨w.heap.size + 1 + 1, 2, none⟩ = some (Value.int .i64 (d 1)) := blk_cell hW1.b2 2
        have c3 : w1.cell? ⟨w.heap.size + 1 + 1, 3, none⟩ = some (Value.int .i64 (d 2)) := blk_cell hW1.b2 3
        have c4 : w1.cell? ⟨w.heap.size + 1 + 1, 4, none⟩ = some (Value.int .i64 (d 3)) := blk_cell hW1.b2 4
        have c5 : w1.cell? ⟨w.heap.size + 1 + 1, 5, none⟩ = some (Value.int .i64 (d 4)) := blk_cell hW1.b2 5
        have c6 : w1.cell? ⟨w.heap.size + 1 + 1, 6, none⟩ = some (Value.int .i64 (d 5)) := blk_cell hW1.b2 6
        have y0 : w1.cell? ⟨w.heap.size + 1, 0, none⟩ = some (Value.bool false) := blk_cell hW1.b1 0
        have y1 : w1.cell? ⟨w.heap.size + 1, 1, none⟩ = some (Value.int .i64 0) := blk_cell hW1.b1 1
        have y2 : w1.cell? ⟨w.heap.size + 1, 2, none⟩ = some (Value.int .i64 0) := blk_cell hW1.b1 2
        have y3 : w1.cell? ⟨w.heap.size + 1, 3, none⟩ = some (Value.int .i64 0) := blk_cell hW1.b1 3
        have y4 : w1.cell? ⟨w.heap.size + 1, 4, none⟩ = some (Value.int .i64 0) := blk_cell hW1.b1 4
        have y5 : w1.cell? ⟨w.heap.size + 1, 5, none⟩ = some (Value.int .i64 0) := blk_cell hW1.b1 5
        have y6 : w1.cell? ⟨w.heap.size + 1, 6, none⟩ = some (Value.int .i64 0) := blk_cell hW1.b1 6
        have z0 : w1.frozen? ⟨w.heap.size + 1, 0, none⟩ = false := blk_frozen hW1.b1 0
        have z1 : w1.frozen? ⟨w.heap.size + 1, 1, none⟩ = false := blk_frozen hW1.b1 1
        have z2 : w1.frozen? ⟨w.heap.size + 1, 2, none⟩ = false := blk_frozen hW1.b1 2
        have z3 : w1.frozen? ⟨w.heap.size + 1, 3, none⟩ = false := blk_frozen hW1.b1 3
        have z4 : w1.frozen? ⟨w.heap.size + 1, 4, none⟩ = false := blk_frozen hW1.b1 4
        have z5 : w1.frozen? ⟨w.heap.size + 1, 5, none⟩ = false := blk_frozen hW1.b1 5
        have z6 : w1.frozen? ⟨w.heap.size + 1, 6, none⟩ = false := blk_frozen hW1.b1 6
        have q0 : w1.frozen? ⟨w.heap.size + 1 + 1, 0, none⟩ = false := blk_frozen hW1.b2 0
        have e0 : w1.cell? ⟨w.heap.size, 0, none⟩ = some (Value.bool m) := blk_cell hW1.b0 0
        have hbl := hW1.bl
        have hl2 := blk_lt hW1.b2
        clear hW1 hb1
        by_cases hz : M / 4294967296 = 0
        · have hz' : decide (M / 4294967296 = 0) = true := decide_eq_true hz
          have HF : Hid (bigC false d = R) := Lib.hid (by rw [← HR.out, hz']; first | rfl | (rw [Bool.not_true, Bool.and_false]))
          clear hz
          go_wp2_with fail
          refine bodyPost_ret (v := .agg #[.bool false, .int .i64 (d 0), .int .i64 (d 1), .int .i64 (d 2), .int .i64 (d 3), .int .i64 (d 4), .int .i64 (d 5)]) (by simp [results, Try.results102, go_sem, *]) rfl ?_
          exact ⟨by rw [← HF.out]; rfl, (((((((hbl.setCell hg2 _).setCell hg _).setCell hg _).setCell hg _).setCell hg _).setCell hg _).setCell hg _).setCell hg _⟩
        · have hz' : decide (M / 4294967296 = 0) = false := decide_eq_false hz
          have HF : Hid (bigC m d = R) := Lib.hid (by rw [← HR.out, hz']; first | rfl | (rw [Bool.not_false, Bool.and_true]))
          clear hz
          go_wp2_with fail
          refine bodyPost_ret (v := .agg #[.bool m, .int .i64 (d 0), .int .i64 (d 1), .int .i64 (d 2), .int .i64 (d 3), .int .i64 (d 4), .int .i64 (d 5)]) (by simp [results, Try.results102, go_sem, *]) rfl ?_
          exact ⟨by rw [← HF.out]; rfl, ((((((hbl.setCell hg _).setCell hg _).setCell hg _).setCell hg _).setCell hg _).setCell hg _).setCell hg _⟩
end Go.Proofs.Ytlkdehflipfpbaa.big
namespace Go.Proofs.Ytlkdehflipfpbaa.big
open Go.RowKit Go.Proofs.YtlkdehflipfpbaaW.PrintWords
theorem shiftN (x : Int) (up : Bool) (h : mag x < 3138550867693340381917894711603833208051177722232017256448) (w : World) :
    Calls Try.prog 102 #[.agg (bigN x), .bool up] w fun e w' => e = .returned (.agg (bigN (shiftI x up))) ∧ Below w.heap.size w w' := by
  have H := shift_walk (mag x) ⟨by unfold mag; split <;> omega, h⟩ (decide (x < 0)) up w
  rw [sh_big] at H
  exact H
/-- All is as it was, but the cell ad, which holds v now, and what is new. -/
def Marked (w : World) (ad : Addr) (v : Value) (w' : World) : Prop := Below w.heap.size (w.setCell ad v) w'
theorem size_set (w : World) (p : Addr) (v : Value) : (w.setCell p v).heap.size = w.heap.size := by simp [World.setCell]
theorem below_set {n : Nat} {w w1 : World} (h : Below n w w1) (p : Addr) (v : Value) : Below n (w.setCell p v) (w1.setCell p v) := by
  refine ⟨h.os, h.tape, h.output, by rw [size_set, size_set]; exact h.size, fun k hk => ?_⟩
  by_cases hkp : k = p.block
  · subst hkp
    show (w1.heap.modify _ _)[p.block]? = (w.heap.modify _ _)[p.block]?
    rw [Array.getElem?_modify, Array.getElem?_modify, if_pos rfl, if_pos rfl, h.block _ hk]
  · rw [Below.heap_setCell _ _ _ _ hkp, Below.heap_setCell _ _ _ _ hkp]
    exact h.block k hk
theorem cell_below {w w1 : World} (h : Below w.heap.size w w1) {p : Addr} {v : Value} (hc : w.cell? p = some v) : w1.cell? p = some v := pw_cell_below h hc
theorem frozen_below {w w1 : World} (h : Below w.heap.size w w1) {p : Addr} (hp : p.block < w.heap.size) : w1.frozen? p = w.frozen? p := by
  unfold World.frozen?
  rw [h.block _ hp]
set_option maxRecDepth 100000 in
set_option maxHeartbeats 1000000 in
theorem refEnd_calls (x : Int) (h : mag x < 3138550867693340381917894711603833208051177722232017256448) (g : Nat) (o : Bool) (w : World) (hc : w.cell? ⟨g, 0, none⟩ = some (.bool o)) (hf : w.frozen? ⟨g, 0, none⟩ = false) :
    Calls Try.prog 92 #[.pointer (some ⟨g, 0, none⟩), .agg (bigN x)] w fun e w' => e = .returned (.int .i64 (clamp x)) ∧ Marked w ⟨g, 0, none⟩ (.bool (o || over x)) w' := by
  have HI := Lib.hid (fun w => endV x h w)
  obtain ⟨m, hm⟩ : ∃ m, decide (x < 0) = m := ⟨_, rfl⟩
  obtain ⟨a, ha⟩ : ∃ a, dgs (mag x) = a := ⟨_, rfl⟩
  have hbx : bigN x = bigC m a := by unfold bigN; rw [hm, ha]
  rw [hbx] at HI ⊢
  have hT0 : One w m a (w.alloc (.cells (bigC m a) 132)) := ⟨heap_alloc_new w _, (Below.refl _ w).alloc (Nat.le_refl _) _⟩
  obtain ⟨-, e0, e1, e2, e3, e4, e5, e6⟩ := hT0.all
  have HT0 := Lib.hid hT0
  have hgl : g < w.heap.size := World.block_lt_of_cell? w ⟨g, 0, none⟩ hc
  obtain ⟨v, hv⟩ : ∃ v, over x = v := ⟨_, rfl⟩
  obtain ⟨z, hz⟩ : ∃ z, clamp x = z := ⟨_, rfl⟩
  rw [hv, hz] at HI ⊢
  have HC := Lib.hid hc
  have HF := Lib.hid hf
  clear hT0 hm ha hbx h hc hf hv hz
  go_enter Try.func92, Try.ntmps92
  go_wp2_with fail
  refine (HI.out _).mono ?_
  rintro e w1 ⟨rfl, hb1⟩
  have hS := HT0.out.below hb1
  clear hb1 e0 e1 e2 e3 e4 e5 e6
  have hc1 := cell_below hS.2 HC.out
  have hf1 : w1.frozen? ⟨g, 0, none⟩ = false := (frozen_below hS.2 hgl).trans HF.out
  have HS := Lib.hid hS.2
  clear hS
  cases o
  · go_wp2_with fail
    go_ret
    exact ⟨rfl, below_set HS.out _ _⟩
  · go_wp2_with fail
    go_ret
    exact ⟨rfl, below_set HS.out _ _⟩
theorem mag_i64 (x : Int) (h : -9223372036854775808 ≤ x ∧ x ≤ 9223372036854775807) : 0 ≤ mag x ∧ mag x ≤ 9223372036854775808 := by
  unfold mag
  split <;> omega
theorem marked_below {w w1 w2 : World} {p : Addr} {v : Value} (h : Below w.heap.size w w1) (hm : Marked w1 p v w2) : Marked w p v w2 := by
  unfold Marked at *
  have h1 := below_set h p v
  have h2 : Below (w.setCell p v).heap.size (w.setCell p v) (w1.setCell p v) := by rw [size_set]; exact h1
  have h3 := below_then h2 h2.size (by rw [size_set]; exact hm)
  rw [size_set] at h3
  exact h3
set_option maxRecDepth 100000 in
set_option maxHeartbeats 1000000 in
theorem refSub_calls (x y : Int) (hx : -9223372036854775808 ≤ x ∧ x ≤ 9223372036854775807) (hy : -9223372036854775808 ≤ y ∧ y ≤ 9223372036854775807) (g : Nat) (o : Bool) (w : World) (hc : w.cell? ⟨g, 0, none⟩ = some (.bool o)) (hf : w.frozen? ⟨g, 0, none⟩ = false) :
    Calls Try.prog 72 #[.pointer (some ⟨g, 0, none⟩), .int .i64 x, .int .i64 y] w fun e w' => e = .returned (.int .i64 (clamp (x - y))) ∧ Marked w ⟨g, 0, none⟩ (.bool (o || over (x - y))) w' := by
  have hmx := mag_i64 x hx
  have hmy := mag_i64 y hy
  have hmn : mag (-y) = mag y := by unfold mag; split <;> split <;> omega
  have hms : mag (x - y) ≤ mag x + mag y := by unfold mag; split <;> split <;> split <;> omega
  have HX := Lib.hid (fun w => ofV x hx w)
  have HY := Lib.hid (fun w => ofV y hy w)
  have HN := Lib.hid (fun w => negN y (by omega) w)
  have hA := fun w => addV x (-y) (by rw [hmn]; omega) w
  rw [show x + -y = x - y by omega] at hA
  have HA := Lib.hid hA
  have HE := Lib.hid (fun w hc hf => refEnd_calls (x - y) (by omega) g o w hc hf)
  have hgl : g < w.heap.size := World.block_lt_of_cell? w ⟨g, 0, none⟩ hc
  have HC := Lib.hid hc
  have HF := Lib.hid hf
  clear hA hmx hmy hmn hms hc hf
  go_enter Try.func72, Try.ntmps72
  go_wp2_with fail
  refine (HX.out _).mono ?_
  rintro e w1 ⟨rfl, hb1⟩
  go_wp2_with fail
  refine (HY.out _).mono ?_
  rintro e w2 ⟨rfl, hb2⟩
  go_wp2_with fail
  refine (HN.out _).mono ?_
  rintro e w3 ⟨rfl, hb3⟩
  go_wp2_with fail
  refine (HA.out _).mono ?_
  rintro e w4 ⟨rfl, hb4⟩
  have hb := below_then (below_then (below_then hb1 hb1.size hb2) (by have := hb1.size; have := hb2.size; omega) hb3) (by have := hb1.size; have := hb2.size; have := hb3.size; omega) hb4
  clear hb1 hb2 hb3 hb4
  go_wp2_with fail
  refine (HE.out _ (cell_below hb HC.out) ((frozen_below hb hgl).trans HF.out)).mono ?_
  rintro e w5 ⟨rfl, hm⟩
  have Hm := Lib.hid (marked_below hb hm)
  clear hm hb
  go_wp2_with fail
  go_ret
  exact ⟨rfl, Hm.out⟩
set_option maxRecDepth 100000 in
set_option maxHeartbeats 1000000 in
theorem refMul_calls (x y : Int) (up : Bool) (hx : -9223372036854775808 ≤ x ∧ x ≤ 9223372036854775807) (hy : -9223372036854775808 ≤ y ∧ y ≤ 9223372036854775807) (g : Nat) (o : Bool) (w : World) (hc : w.cell? ⟨g, 0, none⟩ = some (.bool o)) (hf : w.frozen? ⟨g, 0, none⟩ = false) :
    Calls Try.prog 76 #[.pointer (some ⟨g, 0, none⟩), .int .i64 x, .int .i64 y, .bool up] w fun e w' => e = .returned (.int .i64 (clamp (shiftI (x * y) up))) ∧ Marked w ⟨g, 0, none⟩ (.bool (o || over (shiftI (x * y) up))) w' := by
  have hmx := mag_i64 x hx
  have hmy := mag_i64 y hy
  have hmp : mag (x * y) ≤ 85070591730234615865843651857942052864 := by
    rw [mag_mul]
    have h1 : mag x * mag y ≤ 9223372036854775808 * 9223372036854775808 := Int.mul_le_mul hmx.2 hmy.2 hmy.1 (by omega)
    omega
  have hms : mag (shiftI (x * y) up) < 3138550867693340381917894711603833208051177722232017256448 := by
    generalize x * y = p at *
    unfold shiftI mag at *
    split at hmp <;> split <;> split <;> omega
  have HX := Lib.hid (fun w => ofV x hx w)
  have HY := Lib.hid (fun w => ofV y hy w)
  have HP := Lib.hid (fun w => mulN x y (by omega) (by omega) w)
  have HSh := Lib.hid (fun w => shiftN (x * y) up (by omega) w)
  have HE := Lib.hid (fun w hc hf => refEnd_calls (shiftI (x * y) up) hms g o w hc hf)
  have hgl : g < w.heap.size := World.block_lt_of_cell? w ⟨g, 0, none⟩ hc
  have HC := Lib.hid hc
  have HF := Lib.hid hf
  clear hmx hmy hmp hms hc hf
  go_enter Try.func76, Try.ntmps76
  go_wp2_with fail
  refine (HX.out _).mono ?_
  rintro e w1 ⟨rfl, hb1⟩
  go_wp2_with fail
  refine (HY.out _).mono ?_
  rintro e w2 ⟨rfl, hb2⟩
  go_wp2_with fail
  refine (HP.out _).mono ?_
  rintro e w3 ⟨rfl, hb3⟩
  go_wp2_with fail
  refine (HSh.out _).mono ?_
  rintro e w4 ⟨rfl, hb4⟩
  have hb := below_then (below_then (below_then hb1 hb1.size hb2) (by have := hb1.size; have := hb2.size; omega) hb3) (by have := hb1.size; have := hb2.size; have := hb3.size; omega) hb4
  clear hb1 hb2 hb3 hb4
  go_wp2_with fail
  refine (HE.out _ (cell_below hb HC.out) ((frozen_below hb hgl).trans HF.out)).mono ?_
  rintro e w5 ⟨rfl, hm⟩
  have Hm := Lib.hid (marked_below hb hm)
  clear hm hb
  go_wp2_with fail
  go_ret
  exact ⟨rfl, Hm.out⟩
end Go.Proofs.Ytlkdehflipfpbaa.big
