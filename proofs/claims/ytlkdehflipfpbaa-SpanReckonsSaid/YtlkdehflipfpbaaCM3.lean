import Derived.Test.YtlkdehflipfpbaaCM2
import Derived.Laws.Externs
import Derived.Laws.Bits64b
import Derived.Test.YtlkdehflipfpbaaShelf
namespace Go.Proofs.Ytlkdehflipfpbaa.big
open Go.RowKit Go.Proofs.YtlkdehflipfpbaaW.PrintWords
theorem add64_run (x y c : Int) (hx : 0 ≤ x) (hy : 0 ≤ y) (hc0 : 0 ≤ c) (hc : c ≤ 1) (w : World) :
    (callFunc 109 #[.int .u64 x, .int .u64 y, .int .u64 c]).run Try.prog w = .ok (.value (.tuple #[.int .u64 ((x + y + c) % 18446744073709551616), .int .u64 ((x + y + c) / 18446744073709551616)])) w := by
  rw [run_callFunc_extern Try.func109 (by kernel_rfl) (by kernel_rfl) (by kernel_rfl) (e := add64Entry) (by kernel_rfl), run_add64 x y c hx hy hc0 hc]
  rfl
theorem not64 (x : Int) (h : 0 ≤ x ∧ x < 18446744073709551616) : bits .xor .u64 IntKind.u64.max x = 18446744073709551615 - x := by
  obtain ⟨n, rfl⟩ := Int.eq_ofNat_of_zero_le h.1
  have h2 : (BitVec.ofInt 64 (n : Int)).toNat = n := by
    rw [BitVec.ofInt_natCast, BitVec.toNat_ofNat]; exact Nat.mod_eq_of_lt (by omega)
  have hm : BitVec.ofInt 64 IntKind.u64.max = BitVec.allOnes 64 := by decide
  show IntKind.u64.wrap ((BitVec.ofInt 64 IntKind.u64.max ^^^ BitVec.ofInt 64 (n : Int)).toNat : Int) = _
  rw [hm, BitVec.allOnes_xor, BitVec.toNat_not, h2, IntKind.wrap_u64]
  omega
/-- A number of 128 bits: what its two cells hold. -/
def wideC (n : Int) : Array Value := #[.int .u64 (n / 18446744073709551616 % 18446744073709551616), .int .u64 (n % 18446744073709551616)]
set_option maxRecDepth 100000 in
set_option maxHeartbeats 1000000 in
theorem of_calls (x : Int) (hx : -9223372036854775808 ≤ x ∧ x ≤ 9223372036854775807) (w : World) :
    Calls Try.prog 90 #[.int .i64 x] w fun e w' => e = .returned (.agg (wideC x)) ∧ Below w.heap.size w w' := by
  have HE : Hid ((#[.int .u64 (x / 9223372036854775808 % 18446744073709551616), .int .u64 (x % 18446744073709551616)] : Array Value) = wideC x) := Lib.hid (by
    unfold wideC
    rw [show x / 9223372036854775808 % 18446744073709551616 = x / 18446744073709551616 % 18446744073709551616 by omega])
  have hB : Hid (∀ C : Array Value, Below w.heap.size w (w.alloc (.cells C 125))) := Lib.hid (fun C => (Below.refl _ w).alloc (Nat.le_refl _) _)
  clear hx
  go_enter Try.func90, Try.ntmps90
  go_wp2_with fail
  refine bodyPost_ret (v := .agg #[.int .u64 (IntKind.u64.wrap (x / 9223372036854775808)), .int .u64 (IntKind.u64.wrap x)]) (by simp [results, Try.results90, go_sem, *]) rfl ?_
  exact ⟨by rw [← HE.out, IntKind.wrap_u64, IntKind.wrap_u64], hB.out _⟩
set_option maxRecDepth 100000 in
set_option maxHeartbeats 1000000 in
theorem wplus_calls (a b : Int) (w : World) :
    Calls Try.prog 89 #[.agg (wideC a), .agg (wideC b)] w fun e w' => e = .returned (.agg (wideC (a + b))) ∧ Below w.heap.size w w' := by
  obtain ⟨ah, hah⟩ : ∃ z, a / 18446744073709551616 % 18446744073709551616 = z := ⟨_, rfl⟩
  obtain ⟨al, hal⟩ : ∃ z, a % 18446744073709551616 = z := ⟨_, rfl⟩
  obtain ⟨bh, hbh⟩ : ∃ z, b / 18446744073709551616 % 18446744073709551616 = z := ⟨_, rfl⟩
  obtain ⟨bl, hbl⟩ : ∃ z, b % 18446744073709551616 = z := ⟨_, rfl⟩
  obtain ⟨c, hc⟩ : ∃ z, (al + bl + 0) / 18446744073709551616 = z := ⟨_, rfl⟩
  obtain ⟨l, hl⟩ : ∃ z, (al + bl + 0) % 18446744073709551616 = z := ⟨_, rfl⟩
  obtain ⟨u, hu⟩ : ∃ z, (ah + bh + c) % 18446744073709551616 = z := ⟨_, rfl⟩
  obtain ⟨c2, hc2⟩ : ∃ z, (ah + bh + c) / 18446744073709551616 = z := ⟨_, rfl⟩
  have h1 : ∀ W : World, (callFunc 109 #[.int .u64 al, .int .u64 bl, .int .u64 0]).run Try.prog W = .ok (.value (.tuple #[.int .u64 l, .int .u64 c])) W := fun W => by
    rw [add64_run al bl 0 (by omega) (by omega) (by omega) (by omega), hl, hc]
  have h2 : ∀ W : World, (callFunc 109 #[.int .u64 ah, .int .u64 bh, .int .u64 c]).run Try.prog W = .ok (.value (.tuple #[.int .u64 u, .int .u64 c2])) W := fun W => by
    rw [add64_run ah bh c (by omega) (by omega) (by omega) (by omega), hu, hc2]
  have HE : Hid (wideC (a + b) = #[.int .u64 u, .int .u64 l]) := Lib.hid (by
    unfold wideC
    rw [show (a + b) / 18446744073709551616 % 18446744073709551616 = u by omega, show (a + b) % 18446744073709551616 = l by omega])
  rw [show wideC a = #[.int .u64 ah, .int .u64 al] by unfold wideC; rw [hah, hal], show wideC b = #[.int .u64 bh, .int .u64 bl] by unfold wideC; rw [hbh, hbl]]
  have hB : Hid (∀ C D E : Array Value, Below w.heap.size w (((w.alloc (.cells C 125)).alloc (.cells D 125)).alloc (.cells E 125))) := Lib.hid (fun C D E => (((Below.refl _ w).alloc (Nat.le_refl _) _).alloc (by simp) _).alloc (by simp; omega) _)
  clear hah hal hbh hbl hc hl hu hc2
  go_enter Try.func89, Try.ntmps89
  go_wp2_with fail
  refine bodyPost_ret (v := .agg #[.int .u64 u, .int .u64 l]) (by simp [results, Try.results89, go_sem, *]) rfl ?_
  exact ⟨by rw [HE.out], hB.out _ _ _⟩
set_option maxRecDepth 100000 in
set_option maxHeartbeats 1000000 in
theorem fsize_calls (x : Int) (hx : -9223372036854775808 ≤ x ∧ x ≤ 9223372036854775807) (w : World) :
    Calls Try.prog 119 #[.int .i64 x] w fun e w' => e = .returned (.int .u64 (mag x)) ∧ w' = w := by
  by_cases hn : x < 0
  · have HE : Hid (mag x = -x) := Lib.hid (by unfold mag; rw [if_pos hn])
    go_enter Try.func119, Try.ntmps119
    go_wp2_with fail
    go_ret
    exact ⟨by rw [HE.out, show -x = IntKind.u64.wrap (-IntKind.u64.wrap x) by rw [IntKind.wrap_u64, IntKind.wrap_u64]; omega]; rfl, rfl⟩
  · have HE : Hid (mag x = x) := Lib.hid (by unfold mag; rw [if_neg hn])
    go_enter Try.func119, Try.ntmps119
    go_wp2_with fail
    go_ret
    exact ⟨by rw [HE.out]; rfl, rfl⟩
set_option maxRecDepth 100000 in
set_option maxHeartbeats 1000000 in
theorem wneg_calls (a : Int) (w : World) :
    Calls Try.prog 94 #[.agg (wideC a)] w fun e w' => e = .returned (.agg (wideC (-a))) ∧ Below w.heap.size w w' := by
  have HP := Lib.hid (fun w => wplus_calls (-a - 1) 1 w)
  rw [show -a - 1 + 1 = -a by omega] at HP
  obtain ⟨ah, hah⟩ : ∃ z, a / 18446744073709551616 % 18446744073709551616 = z := ⟨_, rfl⟩
  obtain ⟨al, hal⟩ : ∃ z, a % 18446744073709551616 = z := ⟨_, rfl⟩
  rw [show wideC a = #[.int .u64 ah, .int .u64 al] by unfold wideC; rw [hah, hal]]
  obtain ⟨nh, hnh⟩ : ∃ z, -a / 18446744073709551616 % 18446744073709551616 = z := ⟨_, rfl⟩
  obtain ⟨nl, hnl⟩ : ∃ z, -a % 18446744073709551616 = z := ⟨_, rfl⟩
  have HN : Hid (wideC (-a) = #[.int .u64 nh, .int .u64 nl]) := Lib.hid (by unfold wideC; rw [hnh, hnl])
  rw [HN.out] at HP
  have hr : (0 ≤ ah ∧ ah < 18446744073709551616) ∧ (0 ≤ al ∧ al < 18446744073709551616) := by omega
  have hx1 := not64 ah hr.1
  have hx2 := not64 al hr.2
  rw [show wideC (-a - 1) = #[.int .u64 (18446744073709551615 - ah), .int .u64 (18446744073709551615 - al)] by
    unfold wideC
    rw [show (-a - 1) / 18446744073709551616 % 18446744073709551616 = 18446744073709551615 - ah by omega, show (-a - 1) % 18446744073709551616 = 18446744073709551615 - al by omega]] at HP
  have hB : Hid (∀ C D : Array Value, Below w.heap.size w ((w.alloc (.cells C 125)).alloc (.cells D 125))) := Lib.hid (fun C D => ((Below.refl _ w).alloc (Nat.le_refl _) _).alloc (by simp) _)
  have hk1 := Lib.hid (heap_at1 w (.cells #[.int .u64 ah, .int .u64 al] 125) (.cells #[.int .u64 0, .int .u64 0] 125))
  clear hah hal hnh hnl
  go_enter Try.func94, Try.ntmps94
  go_wp2_with fail
  refine (HP.out _).mono ?_
  rintro e w1 ⟨rfl, hb1⟩
  have hbl := below_then (hB.out _ _) (hB.out _ _).size hb1
  have hk := (hb1.block (w.heap.size + 1) (by simp)).trans hk1.out
  have y0 : w1.cell? ⟨w.heap.size + 1, 0, none⟩ = some (Value.int .u64 0) := blk_cell hk 0
  have y1 : w1.cell? ⟨w.heap.size + 1, 1, none⟩ = some (Value.int .u64 0) := blk_cell hk 1
  have z0 : w1.frozen? ⟨w.heap.size + 1, 0, none⟩ = false := blk_frozen hk 0
  have z1 : w1.frozen? ⟨w.heap.size + 1, 1, none⟩ = false := blk_frozen hk 1
  have hlt := blk_lt hk
  clear hk hb1
  go_wp2_with fail
  refine bodyPost_ret (v := .agg #[.int .u64 nh, .int .u64 nl]) (by simp [results, Try.results94, go_sem, *]) rfl ?_
  exact ⟨by rw [HN.out], (hbl.setCell (by show w.heap.size ≤ w.heap.size + 1; omega) _).setCell (by show w.heap.size ≤ w.heap.size + 1; omega) _⟩
end Go.Proofs.Ytlkdehflipfpbaa.big
namespace Go.Proofs.Ytlkdehflipfpbaa.big
open Go.RowKit Go.Proofs.YtlkdehflipfpbaaW.PrintWords
theorem and63 (h : Int) (hr : 0 ≤ h ∧ h < 18446744073709551616) : (bits .and .u64 h 9223372036854775808 != 0) = decide (9223372036854775808 ≤ h) := by
  obtain ⟨n, rfl⟩ := Int.eq_ofNat_of_zero_le hr.1
  have e : bits .and .u64 (n : Int) 9223372036854775808 = ((n &&& 9223372036854775808 : Nat) : Int) := bits_and_u64_nat n 9223372036854775808 (by omega) (by omega)
  have b : n.testBit 63 = decide (n / 9223372036854775808 % 2 = 1) := Nat.testBit_eq_decide_div_mod_eq
  have p : Nat.testBit 9223372036854775808 63 = true := by decide
  have t : (n &&& 9223372036854775808 = 0) ↔ n.testBit 63 = false := by
    constructor
    · intro hz
      have h := Nat.testBit_and n 9223372036854775808 63
      rw [hz, p, Bool.and_true, Nat.zero_testBit] at h
      exact h.symm
    · intro hz
      apply Nat.eq_of_testBit_eq
      intro i
      rw [Nat.testBit_and, Nat.zero_testBit, show (9223372036854775808 : Nat) = 2 ^ 63 from rfl, Nat.testBit_two_pow]
      by_cases hi : 63 = i
      · subst hi
        rw [hz]; rfl
      · rw [decide_eq_false hi, Bool.and_false]
  rw [e]
  by_cases hh : 9223372036854775808 ≤ (n : Int)
  · have hb : n.testBit 63 = true := by rw [b]; exact decide_eq_true (by omega)
    have hnz : ¬ (n &&& 9223372036854775808 = 0) := fun h => by rw [t.1 h] at hb; exact absurd hb (by decide)
    rw [decide_eq_true hh]
    exact bne_iff_ne.2 (by omega)
  · have hb : n.testBit 63 = false := by rw [b]; exact decide_eq_false (by omega)
    rw [decide_eq_false hh, t.2 hb]
    rfl
set_option maxRecDepth 100000 in
set_option maxHeartbeats 1000000 in
theorem below_calls (a : Int) (h : -170141183460469231731687303715884105728 ≤ a ∧ a < 170141183460469231731687303715884105728) (w : World) :
    Calls Try.prog 111 #[.agg (wideC a)] w fun e w' => e = .returned (.bool (decide (a < 0))) ∧ Below w.heap.size w w' := by
  obtain ⟨ah, hah⟩ : ∃ z, a / 18446744073709551616 % 18446744073709551616 = z := ⟨_, rfl⟩
  obtain ⟨al, hal⟩ : ∃ z, a % 18446744073709551616 = z := ⟨_, rfl⟩
  rw [show wideC a = #[.int .u64 ah, .int .u64 al] by unfold wideC; rw [hah, hal]]
  have ha := and63 ah (by omega)
  rw [show decide (9223372036854775808 ≤ ah) = decide (a < 0) from decide_eq_decide.2 (by omega)] at ha
  have hB : Hid (∀ C : Array Value, Below w.heap.size w (w.alloc (.cells C 125))) := Lib.hid (fun C => (Below.refl _ w).alloc (Nat.le_refl _) _)
  obtain ⟨b, hb⟩ : ∃ b, decide (a < 0) = b := ⟨_, rfl⟩
  rw [hb] at ha ⊢
  clear hah hal hb h
  go_enter Try.func111, Try.ntmps111
  go_wp2_with fail
  go_ret
  exact ⟨rfl, hB.out _⟩
set_option maxRecDepth 100000 in
set_option maxHeartbeats 1000000 in
theorem fend_calls (b : Bool) (g : Nat) (o : Bool) (w : World) (hc : w.cell? ⟨g, 0, none⟩ = some (.bool o)) (hf : w.frozen? ⟨g, 0, none⟩ = false) :
    Calls Try.prog 110 #[.pointer (some ⟨g, 0, none⟩), .bool b] w fun e w' => e = .returned (.int .i64 (bif b then -9223372036854775808 else 9223372036854775807)) ∧ w' = w.setCell ⟨g, 0, none⟩ (.bool true) := by
  have hgl : g < w.heap.size := World.block_lt_of_cell? w ⟨g, 0, none⟩ hc
  cases b
  · go_enter Try.func110, Try.ntmps110
    go_wp2_with fail
    go_ret
    exact ⟨rfl, rfl⟩
  · go_enter Try.func110, Try.ntmps110
    go_wp2_with fail
    go_ret
    exact ⟨rfl, rfl⟩
set_option maxRecDepth 100000 in
set_option maxHeartbeats 1000000 in
/-- Of no Acc. -/
theorem fend_nil (b : Bool) (w : World) :
    Calls Try.prog 110 #[.pointer none, .bool b] w fun e w' => e = .returned (.int .i64 (bif b then -9223372036854775808 else 9223372036854775807)) ∧ w' = w := by
  cases b
  · go_enter Try.func110, Try.ntmps110
    go_wp2_with fail
    go_ret
    exact ⟨rfl, rfl⟩
  · go_enter Try.func110, Try.ntmps110
    go_wp2_with fail
    go_ret
    exact ⟨rfl, rfl⟩
end Go.Proofs.Ytlkdehflipfpbaa.big
namespace Go.Proofs.Ytlkdehflipfpbaa.big
open Go.RowKit Go.Proofs.YtlkdehflipfpbaaW.PrintWords
theorem eqW (d : Nat) (w : World) (x0 y0 : Int) (x1 y1 : Int) :
    (Op.equalIn (d + 2) 125 (.agg #[.int .u64 x0, .int .u64 x1]) (.agg #[.int .u64 y0, .int .u64 y1])).run Try.prog w = .ok (x0 == y0 && (x1 == y1)) w := by
  refine eqA_of Try.underlying125 (by kernel_rfl) ?_
  refine eqf_cons (by rfl) (by go_simp; rfl) (by go_simp; rfl) (by go_simp) ?_
  exact eqf_last (by rfl) (by go_simp; rfl) (by go_simp; rfl) (by go_simp)
/-- A wide number lies at g. -/
def OneW (w : World) (h l : Int) (W : World) : Prop := W.heap[w.heap.size]? = some (.cells #[.int .u64 h, .int .u64 l] 125 (0, 0)) ∧ Below w.heap.size w W
section
variable {w W W' : World} {h l : Int}
theorem OneW.below (k : OneW w h l W) (hb : Below W.heap.size W W') : OneW w h l W' := ⟨(hb.block _ (blk_lt k.1)).trans k.1, below_then k.2 k.2.size hb⟩
theorem OneW.drew (k : OneW w h l W) : OneW w h l W.drew := ⟨k.1, below_drew k.2⟩
theorem OneW.all (k : OneW w h l W) : OneW w h l W ∧ W.cell? ⟨w.heap.size, 0, none⟩ = some (Value.int .u64 h) ∧ W.cell? ⟨w.heap.size, 1, none⟩ = some (Value.int .u64 l) := ⟨k, blk_cell k.1 0, blk_cell k.1 1⟩
end
set_option maxRecDepth 100000 in
set_option maxHeartbeats 1000000 in
theorem fits_in (a : Int) (h : -9223372036854775808 ≤ a ∧ a ≤ 9223372036854775807) (p : Option Addr) (w : World) :
    Calls Try.prog 91 #[.pointer p, .agg (wideC a)] w fun e w' => e = .returned (.int .i64 a) ∧ Below w.heap.size w w' := by
  have HO := Lib.hid (fun w => of_calls a h w)
  obtain ⟨ah, hah⟩ : ∃ z, a / 18446744073709551616 % 18446744073709551616 = z := ⟨_, rfl⟩
  obtain ⟨al, hal⟩ : ∃ z, a % 18446744073709551616 = z := ⟨_, rfl⟩
  rw [show wideC a = #[.int .u64 ah, .int .u64 al] by unfold wideC; rw [hah, hal]] at HO ⊢
  have hW : Hid (OneW w ah al (w.alloc (.cells #[.int .u64 ah, .int .u64 al] 125))) := Lib.hid ⟨heap_alloc_new w _, (Below.refl _ w).alloc (Nat.le_refl _) _⟩
  have hx : IntKind.i64.wrap al = a := by
    rw [← hal]
    simp [IntKind.wrap, IntKind.bits, IntKind.signed]
    omega
  have hx2 : wrap64 al = a := by
    rw [← hal]
    unfold wrap64
    omega
  have h6 : ∀ W : World, (Op.equalIn 10000 125 (.agg #[.int .u64 ah, .int .u64 al]) (.agg #[.int .u64 ah, .int .u64 al])).run Try.prog W = .ok true W := fun W => by
    rw [eqW 9998 W]
    simp
  clear hah hal h
  go_enter Try.func91, Try.ntmps91
  go_wp2_with fail
  go_region_held3 (fun W => OneW w ah al W ∧ W.cell? ⟨w.heap.size, 0, none⟩ = some (Value.int .u64 ah) ∧ W.cell? ⟨w.heap.size, 1, none⟩ = some (Value.int .u64 al))
    (first | exact hW.out.drew.all | exact hS9 | assumption)
    (first | (go_at_call 90; refine (HO.out _).mono ?_; rintro e w9 ⟨rfl, hb9⟩; have hS9 := OneW.all (OneW.below (And.left (by assumption)) hb9)))
  go_wp2_with fail
  go_ret
  exact ⟨rfl, hS9.1.2⟩
set_option maxRecDepth 100000 in
set_option maxHeartbeats 1000000 in
theorem fits_out (a : Int) (h : -170141183460469231731687303715884105728 ≤ a ∧ a < 170141183460469231731687303715884105728) (hno : ¬ (-9223372036854775808 ≤ a ∧ a ≤ 9223372036854775807)) (g : Nat) (o : Bool) (w : World) (hc : w.cell? ⟨g, 0, none⟩ = some (.bool o)) (hf : w.frozen? ⟨g, 0, none⟩ = false) :
    Calls Try.prog 91 #[.pointer (some ⟨g, 0, none⟩), .agg (wideC a)] w fun e w' => e = .returned (.int .i64 (clamp a)) ∧ Marked w ⟨g, 0, none⟩ (.bool true) w' := by
  have HBl := Lib.hid (fun w => below_calls a h w)
  obtain ⟨ah, hah⟩ : ∃ z, a / 18446744073709551616 % 18446744073709551616 = z := ⟨_, rfl⟩
  obtain ⟨al, hal⟩ : ∃ z, a % 18446744073709551616 = z := ⟨_, rfl⟩
  obtain ⟨y, hy⟩ : ∃ y, wrap64 al = y := ⟨_, rfl⟩
  have hyr : -9223372036854775808 ≤ y ∧ y ≤ 9223372036854775807 := by rw [← hy]; unfold wrap64; omega
  have hO := fun w => of_calls y hyr w
  obtain ⟨yh, hyh⟩ : ∃ z, y / 18446744073709551616 % 18446744073709551616 = z := ⟨_, rfl⟩
  obtain ⟨yl, hyl⟩ : ∃ z, y % 18446744073709551616 = z := ⟨_, rfl⟩
  rw [show wideC y = #[.int .u64 yh, .int .u64 yl] by unfold wideC; rw [hyh, hyl]] at hO
  have hne : ¬ (yh = ah ∧ yl = al) := by
    rintro ⟨h1, h2⟩
    unfold wrap64 at hy
    omega
  have HO := Lib.hid hO
  rw [show wideC a = #[.int .u64 ah, .int .u64 al] by unfold wideC; rw [hah, hal]] at HBl ⊢
  have hW : Hid (OneW w ah al (w.alloc (.cells #[.int .u64 ah, .int .u64 al] 125))) := Lib.hid ⟨heap_alloc_new w _, (Below.refl _ w).alloc (Nat.le_refl _) _⟩
  have h6 : ∀ W : World, (Op.equalIn 10000 125 (.agg #[.int .u64 yh, .int .u64 yl]) (.agg #[.int .u64 ah, .int .u64 al])).run Try.prog W = .ok false W := fun W => by
    rw [eqW 9998 W]
    congr 1
    apply Bool.eq_false_iff.2
    intro hh
    simp only [Bool.and_eq_true, beq_iff_eq] at hh
    exact hne hh
  obtain ⟨b, hb⟩ : ∃ b, decide (a < 0) = b := ⟨_, rfl⟩
  rw [hb] at HBl
  have HE : Hid ((bif b then -9223372036854775808 else 9223372036854775807) = clamp a) := Lib.hid (by
    rw [← hb]
    unfold clamp
    by_cases hn : a < 0
    · rw [decide_eq_true hn, if_pos (by omega)]; rfl
    · rw [decide_eq_false hn, if_neg (by omega), if_pos (by omega)]; rfl)
  obtain ⟨z, hz⟩ : ∃ z : Int, (bif b then -9223372036854775808 else 9223372036854775807) = z := ⟨_, rfl⟩
  have HF := Lib.hid (fun W hc hf => fend_calls b g o W hc hf)
  rw [hz] at HF HE
  have hgl : g < w.heap.size := World.block_lt_of_cell? w ⟨g, 0, none⟩ hc
  have HC := Lib.hid hc
  have HFz := Lib.hid hf
  clear hah hal hyh hyl hb hz hne hno h hO hc hf hyr
  go_enter Try.func91, Try.ntmps91
  go_wp2_with fail
  go_region_held3 (fun W => OneW w ah al W ∧ W.cell? ⟨w.heap.size, 0, none⟩ = some (Value.int .u64 ah) ∧ W.cell? ⟨w.heap.size, 1, none⟩ = some (Value.int .u64 al))
    (first | exact hW.out.drew.all | exact hS9 | assumption)
    (first | (go_at_call 90; refine (HO.out _).mono ?_; rintro e w9 ⟨rfl, hb9⟩; have hS9 := OneW.all (OneW.below (And.left (by assumption)) hb9)))
  obtain ⟨hk, k0, k1⟩ := hS9
  go_wp2_with fail
  refine (HBl.out _).mono ?_
  rintro e w2 ⟨rfl, hb2⟩
  have hk2 := hk.below hb2
  clear hk k0 k1 hb2
  go_wp2_with fail
  refine (HF.out _ (cell_below hk2.2 HC.out) ((frozen_below hk2.2 hgl).trans HFz.out)).mono ?_
  rintro e w3 ⟨rfl, rfl⟩
  go_wp2_with fail
  go_ret
  exact ⟨by rw [← HE.out]; rfl, below_set hk2.2 _ _⟩
end Go.Proofs.Ytlkdehflipfpbaa.big
namespace Go.Proofs.Ytlkdehflipfpbaa.big
open Go.RowKit Go.Proofs.YtlkdehflipfpbaaW.PrintWords
theorem marked_same {w w' : World} {g i : Nat} {v : Value} (hc : w.cell? ⟨g, i, none⟩ = some v) (h : Below w.heap.size w w') : Marked w ⟨g, i, none⟩ v w' := by
  refine ⟨h.os, h.tape, h.output, by rw [size_set]; exact h.size, fun k hk => ?_⟩
  rw [h.block k hk]
  by_cases hkg : k = g
  · subst hkg
    unfold World.cell? at hc
    show _ = (w.heap.modify _ _)[k]?
    rw [Array.getElem?_modify, if_pos rfl]
    cases hb : w.heap[k]? with
    | none => rfl
    | some o =>
      rw [hb] at hc
      cases o with
      | cells c t fz =>
        simp only [Option.map_some, Option.some.injEq]
        have hci : c[i]? = some v := by simpa using hc
        show Obj.cells c t fz = Obj.cells (c.setIfInBounds i v) t fz
        congr 1
        apply Array.ext_getElem?
        intro j
        rw [Array.getElem?_setIfInBounds]
        by_cases hj : i = j
        · subst hj
          rw [if_pos rfl, hci]
          have := (Array.getElem?_eq_some_iff.1 hci).1
          rw [if_pos this]
        · rw [if_neg hj]
      | _ => rfl
  · exact (Below.heap_setCell w _ _ _ hkg).symm
/-- fits, whatever the number. -/
theorem fits_calls (a : Int) (h : -170141183460469231731687303715884105728 ≤ a ∧ a < 170141183460469231731687303715884105728) (g : Nat) (o : Bool) (w : World) (hc : w.cell? ⟨g, 0, none⟩ = some (.bool o)) (hf : w.frozen? ⟨g, 0, none⟩ = false) :
    Calls Try.prog 91 #[.pointer (some ⟨g, 0, none⟩), .agg (wideC a)] w fun e w' => e = .returned (.int .i64 (clamp a)) ∧ Marked w ⟨g, 0, none⟩ (.bool (o || over a)) w' := by
  by_cases hin : -9223372036854775808 ≤ a ∧ a ≤ 9223372036854775807
  · refine (fits_in a hin _ w).mono ?_
    rintro e w' ⟨rfl, hb⟩
    refine ⟨by rw [show clamp a = a from by unfold clamp; rw [if_neg (by omega), if_neg (by omega)]], ?_⟩
    rw [show over a = false from by unfold over; rw [decide_eq_true hin]; rfl, Bool.or_false]
    exact marked_same hc hb
  · refine (fits_out a h hin g o w hc hf).mono ?_
    rintro e w' ⟨rfl, hb⟩
    refine ⟨rfl, ?_⟩
    rw [show over a = true from by unfold over; rw [decide_eq_false hin]; rfl, Bool.or_true]
    exact hb
set_option maxRecDepth 100000 in
set_option maxHeartbeats 1000000 in
theorem fixSub_calls (x y : Int) (hx : -9223372036854775808 ≤ x ∧ x ≤ 9223372036854775807) (hy : -9223372036854775808 ≤ y ∧ y ≤ 9223372036854775807) (g : Nat) (o : Bool) (w : World) (hc : w.cell? ⟨g, 0, none⟩ = some (.bool o)) (hf : w.frozen? ⟨g, 0, none⟩ = false) :
    Calls Try.prog 71 #[.pointer (some ⟨g, 0, none⟩), .int .i64 x, .int .i64 y] w fun e w' => e = .returned (.int .i64 (clamp (x - y))) ∧ Marked w ⟨g, 0, none⟩ (.bool (o || over (x - y))) w' := by
  have HX := Lib.hid (fun w => of_calls x hx w)
  have HY := Lib.hid (fun w => of_calls y hy w)
  have HN := Lib.hid (fun w => wneg_calls y w)
  have hA := fun w => wplus_calls x (-y) w
  rw [show x + -y = x - y by omega] at hA
  have HA := Lib.hid hA
  have HE := Lib.hid (fun w hc hf => fits_calls (x - y) (by omega) g o w hc hf)
  have hgl : g < w.heap.size := World.block_lt_of_cell? w ⟨g, 0, none⟩ hc
  have HC := Lib.hid hc
  have HF := Lib.hid hf
  clear hA hc hf
  go_enter Try.func71, Try.ntmps71
  go_wp2_with fail
  refine (HX.out _).mono ?_
  rintro e w1 ⟨rfl, hb1⟩
  go_wp2_with fail
  refine (HY.out _).mono ?_
  rintro e w2 ⟨rfl, hb2⟩
  go_wp2_with fail
  refine (HN.out _).mono ?_
  rintro e w3 ⟨rfl, hb3⟩
  go_wp2_with fail
  refine (HA.out _).mono ?_
  rintro e w4 ⟨rfl, hb4⟩
  have hb := below_then (below_then (below_then hb1 hb1.size hb2) (by have := hb1.size; have := hb2.size; omega) hb3) (by have := hb1.size; have := hb2.size; have := hb3.size; omega) hb4
  clear hb1 hb2 hb3 hb4
  go_wp2_with fail
  refine (HE.out _ (cell_below hb HC.out) ((frozen_below hb hgl).trans HF.out)).mono ?_
  rintro e w5 ⟨rfl, hm⟩
  have Hm := Lib.hid (marked_below hb hm)
  clear hm hb
  go_wp2_with fail
  go_ret
  exact ⟨rfl, Hm.out⟩
end Go.Proofs.Ytlkdehflipfpbaa.big
namespace Go.Proofs.Ytlkdehflipfpbaa.big
open Go.RowKit Go.Proofs.YtlkdehflipfpbaaW.PrintWords
theorem wideC_eq (n : Int) : ∃ h l, wideC n = #[.int .u64 h, .int .u64 l] := ⟨_, _, rfl⟩
theorem wide_one : wideC 1 = #[.int .u64 0, .int .u64 1] := rfl
/-- What 'rounded' makes of a size, a rest, a sign and a way. -/
def roundI (m : Int) (rest below up : Bool) : Int := let k := if (rest && (up != below)) = true then m + 1 else m; if below = true then -k else k
set_option maxRecDepth 100000 in
set_option maxHeartbeats 1000000 in
theorem rounded_t_t_t (m : Int) (hm : 0 ≤ m ∧ m < 85070591730234615865843651857942052864) (g : Nat) (o : Bool) (w : World) (hc : w.cell? ⟨g, 0, none⟩ = some (.bool o)) (hf : w.frozen? ⟨g, 0, none⟩ = false) :
    Calls Try.prog 120 #[.pointer (some ⟨g, 0, none⟩), .agg (wideC m), .bool true, .bool true, .bool true] w fun e w' => e = .returned (.int .i64 (clamp (-(m)))) ∧ Marked w ⟨g, 0, none⟩ (.bool (o || over (-(m)))) w' := by
  have HE := Lib.hid (fun w hc hf => fits_calls (-(m)) (by omega) g o w hc hf)
  have hN := fun w => wneg_calls (m) w
  obtain ⟨h0, l0, e0⟩ := wideC_eq m
  obtain ⟨h2, l2, e2⟩ := wideC_eq (-(m))
  rw [e0, e2] at hN
  have HN := Lib.hid hN
  clear hN
  rw [e2] at HE
  rw [e0]
  have hW : Hid (OneW w h0 l0 (w.alloc (.cells #[.int .u64 h0, .int .u64 l0] 125))) := Lib.hid ⟨heap_alloc_new w _, (Below.refl _ w).alloc (Nat.le_refl _) _⟩
  have hgl : g < w.heap.size := World.block_lt_of_cell? w ⟨g, 0, none⟩ hc
  have HC := Lib.hid hc
  have HF := Lib.hid hf
  clear hc hf hm e0 e2
  go_enter Try.func120, Try.ntmps120
  go_wp2_with fail
  refine (HN.out _).mono ?_
  rintro e w2 ⟨rfl, hb2⟩
  have k2 := hW.out.below hb2
  have c2 := blk_cell k2.1 0
  have d2 := blk_cell k2.1 1
  have f2 := blk_frozen k2.1 0
  have q2 := blk_frozen k2.1 1
  have n2 : OneW w h2 l2 ((w2.setCell ⟨w.heap.size, 0, none⟩ (.int .u64 h2)).setCell ⟨w.heap.size, 1, none⟩ (.int .u64 l2)) := ⟨blk_put (blk_put (cs' := #[.int .u64 h2, _]) k2.1 0 _ rfl) 1 _ rfl, (k2.2.setCell (Nat.le_refl _) _).setCell (Nat.le_refl _) _⟩
  have j2 := Lib.hid n2
  clear k2 hb2 n2
  go_wp2_with fail
  have hb := (j2.out).2
  refine (HE.out _ (cell_below hb HC.out) ((frozen_below hb hgl).trans HF.out)).mono ?_
  rintro e w5 ⟨rfl, hm⟩
  have Hm := Lib.hid (marked_below hb hm)
  clear hm hb
  go_wp2_with fail
  go_ret
  exact ⟨rfl, Hm.out⟩
set_option maxRecDepth 100000 in
set_option maxHeartbeats 1000000 in
theorem rounded_t_t_f (m : Int) (hm : 0 ≤ m ∧ m < 85070591730234615865843651857942052864) (g : Nat) (o : Bool) (w : World) (hc : w.cell? ⟨g, 0, none⟩ = some (.bool o)) (hf : w.frozen? ⟨g, 0, none⟩ = false) :
    Calls Try.prog 120 #[.pointer (some ⟨g, 0, none⟩), .agg (wideC m), .bool true, .bool true, .bool false] w fun e w' => e = .returned (.int .i64 (clamp (-(m + 1)))) ∧ Marked w ⟨g, 0, none⟩ (.bool (o || over (-(m + 1)))) w' := by
  have HE := Lib.hid (fun w hc hf => fits_calls (-(m + 1)) (by omega) g o w hc hf)
  have hP := fun w => wplus_calls m 1 w
  rw [wide_one] at hP
  have hN := fun w => wneg_calls (m + 1) w
  obtain ⟨h0, l0, e0⟩ := wideC_eq m
  obtain ⟨h1, l1, e1⟩ := wideC_eq (m + 1)
  obtain ⟨h2, l2, e2⟩ := wideC_eq (-(m + 1))
  rw [e0, e1] at hP
  have HP := Lib.hid hP
  clear hP
  rw [e1, e2] at hN
  have HN := Lib.hid hN
  clear hN
  rw [e2] at HE
  rw [e0]
  have hW : Hid (OneW w h0 l0 (w.alloc (.cells #[.int .u64 h0, .int .u64 l0] 125))) := Lib.hid ⟨heap_alloc_new w _, (Below.refl _ w).alloc (Nat.le_refl _) _⟩
  have hgl : g < w.heap.size := World.block_lt_of_cell? w ⟨g, 0, none⟩ hc
  have HC := Lib.hid hc
  have HF := Lib.hid hf
  clear hc hf hm e0 e1 e2
  go_enter Try.func120, Try.ntmps120
  go_wp2_with fail
  refine (HP.out _).mono ?_
  rintro e w1 ⟨rfl, hb1⟩
  have k1 := hW.out.below hb1
  have c1 := blk_cell k1.1 0
  have d1 := blk_cell k1.1 1
  have f1 := blk_frozen k1.1 0
  have q1 := blk_frozen k1.1 1
  have n1 : OneW w h1 l1 ((w1.setCell ⟨w.heap.size, 0, none⟩ (.int .u64 h1)).setCell ⟨w.heap.size, 1, none⟩ (.int .u64 l1)) := ⟨blk_put (blk_put (cs' := #[.int .u64 h1, _]) k1.1 0 _ rfl) 1 _ rfl, (k1.2.setCell (Nat.le_refl _) _).setCell (Nat.le_refl _) _⟩
  have j1 := Lib.hid n1
  clear k1 hb1 n1
  go_wp2_with fail
  refine (HN.out _).mono ?_
  rintro e w2 ⟨rfl, hb2⟩
  have k2 := j1.out.below hb2
  have c2 := blk_cell k2.1 0
  have d2 := blk_cell k2.1 1
  have f2 := blk_frozen k2.1 0
  have q2 := blk_frozen k2.1 1
  have n2 : OneW w h2 l2 ((w2.setCell ⟨w.heap.size, 0, none⟩ (.int .u64 h2)).setCell ⟨w.heap.size, 1, none⟩ (.int .u64 l2)) := ⟨blk_put (blk_put (cs' := #[.int .u64 h2, _]) k2.1 0 _ rfl) 1 _ rfl, (k2.2.setCell (Nat.le_refl _) _).setCell (Nat.le_refl _) _⟩
  have j2 := Lib.hid n2
  clear k2 hb2 n2
  go_wp2_with fail
  have hb := (j2.out).2
  refine (HE.out _ (cell_below hb HC.out) ((frozen_below hb hgl).trans HF.out)).mono ?_
  rintro e w5 ⟨rfl, hm⟩
  have Hm := Lib.hid (marked_below hb hm)
  clear hm hb
  go_wp2_with fail
  go_ret
  exact ⟨rfl, Hm.out⟩
set_option maxRecDepth 100000 in
set_option maxHeartbeats 1000000 in
theorem rounded_t_f_t (m : Int) (hm : 0 ≤ m ∧ m < 85070591730234615865843651857942052864) (g : Nat) (o : Bool) (w : World) (hc : w.cell? ⟨g, 0, none⟩ = some (.bool o)) (hf : w.frozen? ⟨g, 0, none⟩ = false) :
    Calls Try.prog 120 #[.pointer (some ⟨g, 0, none⟩), .agg (wideC m), .bool true, .bool false, .bool true] w fun e w' => e = .returned (.int .i64 (clamp (m + 1))) ∧ Marked w ⟨g, 0, none⟩ (.bool (o || over (m + 1))) w' := by
  have HE := Lib.hid (fun w hc hf => fits_calls (m + 1) (by omega) g o w hc hf)
  have hP := fun w => wplus_calls m 1 w
  rw [wide_one] at hP
  obtain ⟨h0, l0, e0⟩ := wideC_eq m
  obtain ⟨h1, l1, e1⟩ := wideC_eq (m + 1)
  rw [e0, e1] at hP
  have HP := Lib.hid hP
  clear hP
  rw [e1] at HE
  rw [e0]
  have hW : Hid (OneW w h0 l0 (w.alloc (.cells #[.int .u64 h0, .int .u64 l0] 125))) := Lib.hid ⟨heap_alloc_new w _, (Below.refl _ w).alloc (Nat.le_refl _) _⟩
  have hgl : g < w.heap.size := World.block_lt_of_cell? w ⟨g, 0, none⟩ hc
  have HC := Lib.hid hc
  have HF := Lib.hid hf
  clear hc hf hm e0 e1
  go_enter Try.func120, Try.ntmps120
  go_wp2_with fail
  refine (HP.out _).mono ?_
  rintro e w1 ⟨rfl, hb1⟩
  have k1 := hW.out.below hb1
  have c1 := blk_cell k1.1 0
  have d1 := blk_cell k1.1 1
  have f1 := blk_frozen k1.1 0
  have q1 := blk_frozen k1.1 1
  have n1 : OneW w h1 l1 ((w1.setCell ⟨w.heap.size, 0, none⟩ (.int .u64 h1)).setCell ⟨w.heap.size, 1, none⟩ (.int .u64 l1)) := ⟨blk_put (blk_put (cs' := #[.int .u64 h1, _]) k1.1 0 _ rfl) 1 _ rfl, (k1.2.setCell (Nat.le_refl _) _).setCell (Nat.le_refl _) _⟩
  have j1 := Lib.hid n1
  clear k1 hb1 n1
  go_wp2_with fail
  have hb := (j1.out).2
  refine (HE.out _ (cell_below hb HC.out) ((frozen_below hb hgl).trans HF.out)).mono ?_
  rintro e w5 ⟨rfl, hm⟩
  have Hm := Lib.hid (marked_below hb hm)
  clear hm hb
  go_wp2_with fail
  go_ret
  exact ⟨rfl, Hm.out⟩
set_option maxRecDepth 100000 in
set_option maxHeartbeats 1000000 in
theorem rounded_t_f_f (m : Int) (hm : 0 ≤ m ∧ m < 85070591730234615865843651857942052864) (g : Nat) (o : Bool) (w : World) (hc : w.cell? ⟨g, 0, none⟩ = some (.bool o)) (hf : w.frozen? ⟨g, 0, none⟩ = false) :
    Calls Try.prog 120 #[.pointer (some ⟨g, 0, none⟩), .agg (wideC m), .bool true, .bool false, .bool false] w fun e w' => e = .returned (.int .i64 (clamp (m))) ∧ Marked w ⟨g, 0, none⟩ (.bool (o || over (m))) w' := by
  have HE := Lib.hid (fun w hc hf => fits_calls (m) (by omega) g o w hc hf)
  obtain ⟨h0, l0, e0⟩ := wideC_eq m
  rw [e0] at HE
  rw [e0]
  have hW : Hid (OneW w h0 l0 (w.alloc (.cells #[.int .u64 h0, .int .u64 l0] 125))) := Lib.hid ⟨heap_alloc_new w _, (Below.refl _ w).alloc (Nat.le_refl _) _⟩
  have hgl : g < w.heap.size := World.block_lt_of_cell? w ⟨g, 0, none⟩ hc
  have HC := Lib.hid hc
  have HF := Lib.hid hf
  clear hc hf hm e0
  go_enter Try.func120, Try.ntmps120
  go_wp2_with fail
  have hb := (hW.out).2
  refine (HE.out _ (cell_below hb HC.out) ((frozen_below hb hgl).trans HF.out)).mono ?_
  rintro e w5 ⟨rfl, hm⟩
  have Hm := Lib.hid (marked_below hb hm)
  clear hm hb
  go_wp2_with fail
  go_ret
  exact ⟨rfl, Hm.out⟩
set_option maxRecDepth 100000 in
set_option maxHeartbeats 1000000 in
theorem rounded_f_t_t (m : Int) (hm : 0 ≤ m ∧ m < 85070591730234615865843651857942052864) (g : Nat) (o : Bool) (w : World) (hc : w.cell? ⟨g, 0, none⟩ = some (.bool o)) (hf : w.frozen? ⟨g, 0, none⟩ = false) :
    Calls Try.prog 120 #[.pointer (some ⟨g, 0, none⟩), .agg (wideC m), .bool false, .bool true, .bool true] w fun e w' => e = .returned (.int .i64 (clamp (-(m)))) ∧ Marked w ⟨g, 0, none⟩ (.bool (o || over (-(m)))) w' := by
  have HE := Lib.hid (fun w hc hf => fits_calls (-(m)) (by omega) g o w hc hf)
  have hN := fun w => wneg_calls (m) w
  obtain ⟨h0, l0, e0⟩ := wideC_eq m
  obtain ⟨h2, l2, e2⟩ := wideC_eq (-(m))
  rw [e0, e2] at hN
  have HN := Lib.hid hN
  clear hN
  rw [e2] at HE
  rw [e0]
  have hW : Hid (OneW w h0 l0 (w.alloc (.cells #[.int .u64 h0, .int .u64 l0] 125))) := Lib.hid ⟨heap_alloc_new w _, (Below.refl _ w).alloc (Nat.le_refl _) _⟩
  have hgl : g < w.heap.size := World.block_lt_of_cell? w ⟨g, 0, none⟩ hc
  have HC := Lib.hid hc
  have HF := Lib.hid hf
  clear hc hf hm e0 e2
  go_enter Try.func120, Try.ntmps120
  go_wp2_with fail
  refine (HN.out _).mono ?_
  rintro e w2 ⟨rfl, hb2⟩
  have k2 := hW.out.below hb2
  have c2 := blk_cell k2.1 0
  have d2 := blk_cell k2.1 1
  have f2 := blk_frozen k2.1 0
  have q2 := blk_frozen k2.1 1
  have n2 : OneW w h2 l2 ((w2.setCell ⟨w.heap.size, 0, none⟩ (.int .u64 h2)).setCell ⟨w.heap.size, 1, none⟩ (.int .u64 l2)) := ⟨blk_put (blk_put (cs' := #[.int .u64 h2, _]) k2.1 0 _ rfl) 1 _ rfl, (k2.2.setCell (Nat.le_refl _) _).setCell (Nat.le_refl _) _⟩
  have j2 := Lib.hid n2
  clear k2 hb2 n2
  go_wp2_with fail
  have hb := (j2.out).2
  refine (HE.out _ (cell_below hb HC.out) ((frozen_below hb hgl).trans HF.out)).mono ?_
  rintro e w5 ⟨rfl, hm⟩
  have Hm := Lib.hid (marked_below hb hm)
  clear hm hb
  go_wp2_with fail
  go_ret
  exact ⟨rfl, Hm.out⟩
set_option maxRecDepth 100000 in
set_option maxHeartbeats 1000000 in
theorem rounded_f_t_f (m : Int) (hm : 0 ≤ m ∧ m < 85070591730234615865843651857942052864) (g : Nat) (o : Bool) (w : World) (hc : w.cell? ⟨g, 0, none⟩ = some (.bool o)) (hf : w.frozen? ⟨g, 0, none⟩ = false) :
    Calls Try.prog 120 #[.pointer (some ⟨g, 0, none⟩), .agg (wideC m), .bool false, .bool true, .bool false] w fun e w' => e = .returned (.int .i64 (clamp (-(m)))) ∧ Marked w ⟨g, 0, none⟩ (.bool (o || over (-(m)))) w' := by
  have HE := Lib.hid (fun w hc hf => fits_calls (-(m)) (by omega) g o w hc hf)
  have hN := fun w => wneg_calls (m) w
  obtain ⟨h0, l0, e0⟩ := wideC_eq m
  obtain ⟨h2, l2, e2⟩ := wideC_eq (-(m))
  rw [e0, e2] at hN
  have HN := Lib.hid hN
  clear hN
  rw [e2] at HE
  rw [e0]
  have hW : Hid (OneW w h0 l0 (w.alloc (.cells #[.int .u64 h0, .int .u64 l0] 125))) := Lib.hid ⟨heap_alloc_new w _, (Below.refl _ w).alloc (Nat.le_refl _) _⟩
  have hgl : g < w.heap.size := World.block_lt_of_cell? w ⟨g, 0, none⟩ hc
  have HC := Lib.hid hc
  have HF := Lib.hid hf
  clear hc hf hm e0 e2
  go_enter Try.func120, Try.ntmps120
  go_wp2_with fail
  refine (HN.out _).mono ?_
  rintro e w2 ⟨rfl, hb2⟩
  have k2 := hW.out.below hb2
  have c2 := blk_cell k2.1 0
  have d2 := blk_cell k2.1 1
  have f2 := blk_frozen k2.1 0
  have q2 := blk_frozen k2.1 1
  have n2 : OneW w h2 l2 ((w2.setCell ⟨w.heap.size, 0, none⟩ (.int .u64 h2)).setCell ⟨w.heap.size, 1, none⟩ (.int .u64 l2)) := ⟨blk_put (blk_put (cs' := #[.int .u64 h2, _]) k2.1 0 _ rfl) 1 _ rfl, (k2.2.setCell (Nat.le_refl _) _).setCell (Nat.le_refl _) _⟩
  have j2 := Lib.hid n2
  clear k2 hb2 n2
  go_wp2_with fail
  have hb := (j2.out).2
  refine (HE.out _ (cell_below hb HC.out) ((frozen_below hb hgl).trans HF.out)).mono ?_
  rintro e w5 ⟨rfl, hm⟩
  have Hm := Lib.hid (marked_below hb hm)
  clear hm hb
  go_wp2_with fail
  go_ret
  exact ⟨rfl, Hm.out⟩
set_option maxRecDepth 100000 in
set_option maxHeartbeats 1000000 in
theorem rounded_f_f_t (m : Int) (hm : 0 ≤ m ∧ m < 85070591730234615865843651857942052864) (g : Nat) (o : Bool) (w : World) (hc : w.cell? ⟨g, 0, none⟩ = some (.bool o)) (hf : w.frozen? ⟨g, 0, none⟩ = false) :
    Calls Try.prog 120 #[.pointer (some ⟨g, 0, none⟩), .agg (wideC m), .bool false, .bool false, .bool true] w fun e w' => e = .returned (.int .i64 (clamp (m))) ∧ Marked w ⟨g, 0, none⟩ (.bool (o || over (m))) w' := by
  have HE := Lib.hid (fun w hc hf => fits_calls (m) (by omega) g o w hc hf)
  obtain ⟨h0, l0, e0⟩ := wideC_eq m
  rw [e0] at HE
  rw [e0]
  have hW : Hid (OneW w h0 l0 (w.alloc (.cells #[.int .u64 h0, .int .u64 l0] 125))) := Lib.hid ⟨heap_alloc_new w _, (Below.refl _ w).alloc (Nat.le_refl _) _⟩
  have hgl : g < w.heap.size := World.block_lt_of_cell? w ⟨g, 0, none⟩ hc
  have HC := Lib.hid hc
  have HF := Lib.hid hf
  clear hc hf hm e0
  go_enter Try.func120, Try.ntmps120
  go_wp2_with fail
  have hb := (hW.out).2
  refine (HE.out _ (cell_below hb HC.out) ((frozen_below hb hgl).trans HF.out)).mono ?_
  rintro e w5 ⟨rfl, hm⟩
  have Hm := Lib.hid (marked_below hb hm)
  clear hm hb
  go_wp2_with fail
  go_ret
  exact ⟨rfl, Hm.out⟩
set_option maxRecDepth 100000 in
set_option maxHeartbeats 1000000 in
theorem rounded_f_f_f (m : Int) (hm : 0 ≤ m ∧ m < 85070591730234615865843651857942052864) (g : Nat) (o : Bool) (w : World) (hc : w.cell? ⟨g, 0, none⟩ = some (.bool o)) (hf : w.frozen? ⟨g, 0, none⟩ = false) :
    Calls Try.prog 120 #[.pointer (some ⟨g, 0, none⟩), .agg (wideC m), .bool false, .bool false, .bool false] w fun e w' => e = .returned (.int .i64 (clamp (m))) ∧ Marked w ⟨g, 0, none⟩ (.bool (o || over (m))) w' := by
  have HE := Lib.hid (fun w hc hf => fits_calls (m) (by omega) g o w hc hf)
  obtain ⟨h0, l0, e0⟩ := wideC_eq m
  rw [e0] at HE
  rw [e0]
  have hW : Hid (OneW w h0 l0 (w.alloc (.cells #[.int .u64 h0, .int .u64 l0] 125))) := Lib.hid ⟨heap_alloc_new w _, (Below.refl _ w).alloc (Nat.le_refl _) _⟩
  have hgl : g < w.heap.size := World.block_lt_of_cell? w ⟨g, 0, none⟩ hc
  have HC := Lib.hid hc
  have HF := Lib.hid hf
  clear hc hf hm e0
  go_enter Try.func120, Try.ntmps120
  go_wp2_with fail
  have hb := (hW.out).2
  refine (HE.out _ (cell_below hb HC.out) ((frozen_below hb hgl).trans HF.out)).mono ?_
  rintro e w5 ⟨rfl, hm⟩
  have Hm := Lib.hid (marked_below hb hm)
  clear hm hb
  go_wp2_with fail
  go_ret
  exact ⟨rfl, Hm.out⟩
end Go.Proofs.Ytlkdehflipfpbaa.big
namespace Go.Proofs.Ytlkdehflipfpbaa.big
open Go.RowKit Go.Proofs.YtlkdehflipfpbaaW.PrintWords
/-- Rounded as the document rounds. -/
theorem round_shift (x y : Int) (up : Bool) : roundI (mag x * mag y / 4294967296) (decide (mag x * mag y % 4294967296 ≠ 0)) (decide (x < 0) != decide (y < 0)) up = shiftI (x * y) up := by
  have hm := mag_mul x y
  have hs := sign_mul x y
  have hn : 0 ≤ mag (x * y) := by unfold mag; split <;> omega
  rw [← hm]
  by_cases h0 : x * y = 0
  · rw [h0]
    cases (decide (x < 0) != decide (y < 0)) <;> cases up <;> rfl
  · rw [decide_eq_false h0, Bool.not_false, Bool.and_true] at hs
    rw [hs]
    generalize x * y = p at *
    unfold roundI shiftI mag
    by_cases hp : p < 0
    · rw [if_pos hp, decide_eq_true hp]
      cases up <;> simp <;> (try split) <;> omega
    · rw [if_neg hp, decide_eq_false hp]
      cases up <;> simp <;> (try split) <;> omega
theorem and32 (l : Int) (h : 0 ≤ l ∧ l < 18446744073709551616) : bits .and .u64 l 4294967295 = l % 4294967296 := by
  obtain ⟨n, rfl⟩ := Int.eq_ofNat_of_zero_le h.1
  have e : bits .and .u64 (n : Int) 4294967295 = ((n &&& 4294967295 : Nat) : Int) := bits_and_u64_nat n 4294967295 (by omega) (by omega)
  have t : n &&& 4294967295 = n % 4294967296 := Nat.and_two_pow_sub_one_eq_mod n 32
  rw [e, t]
  omega
theorem or32 (a l : Int) (ha : 0 ≤ a ∧ a < 4294967296) (hl : 0 ≤ l ∧ l < 4294967296) : bits .or .u64 (a * 4294967296) l = a * 4294967296 + l := by
  obtain ⟨n, rfl⟩ := Int.eq_ofNat_of_zero_le ha.1
  obtain ⟨k, rfl⟩ := Int.eq_ofNat_of_zero_le hl.1
  have e := bits_or_u64_nat (2 ^ 32 * n) k (by omega) (by omega)
  rw [← Nat.two_pow_add_eq_or_of_lt (by omega)] at e
  rw [show (n : Int) * 4294967296 = ((2 ^ 32 * n : Nat) : Int) by omega, e]
  omega
end Go.Proofs.Ytlkdehflipfpbaa.big
namespace Go.Proofs.Ytlkdehflipfpbaa.big
open Go.RowKit Go.Proofs.YtlkdehflipfpbaaW.PrintWords
theorem mul64_calls (a b : Int) (ha : 0 ≤ a ∧ a < 18446744073709551616) (hb : 0 ≤ b ∧ b < 18446744073709551616) (w : World) :
    Calls Try.prog 118 #[.int .u64 a, .int .u64 b] w fun e w' => e = .returned (.tuple #[.int .u64 (a * b / 18446744073709551616), .int .u64 (a * b % 18446744073709551616)]) ∧ w' = w := by
  obtain ⟨n, rfl⟩ := Int.eq_ofNat_of_zero_le ha.1
  obtain ⟨k, rfl⟩ := Int.eq_ofNat_of_zero_le hb.1
  have H := Try.bits_Mul64 n k (by omega) (by omega) w
  have hp : ((n * k : Nat) : Int) = (n : Int) * (k : Int) := Int.natCast_mul n k
  generalize hq : n * k = q at H hp
  rw [← hp]
  have h1 : ((q / 18446744073709551616 : Nat) : Int) = (q : Int) / 18446744073709551616 := by omega
  have h2 : ((q % 18446744073709551616 : Nat) : Int) = (q : Int) % 18446744073709551616 := by omega
  rw [h1, h2] at H
  exact H
theorem rounded_calls (m : Int) (rest below up : Bool) (hm : 0 ≤ m ∧ m < 85070591730234615865843651857942052864) (g : Nat) (o : Bool) (w : World) (hc : w.cell? ⟨g, 0, none⟩ = some (.bool o)) (hf : w.frozen? ⟨g, 0, none⟩ = false) :
    Calls Try.prog 120 #[.pointer (some ⟨g, 0, none⟩), .agg (wideC m), .bool rest, .bool below, .bool up] w fun e w' => e = .returned (.int .i64 (clamp (roundI m rest below up))) ∧ Marked w ⟨g, 0, none⟩ (.bool (o || over (roundI m rest below up))) w' := by
  cases rest <;> cases below <;> cases up
  · exact rounded_f_f_f m hm g o w hc hf
  · exact rounded_f_f_t m hm g o w hc hf
  · exact rounded_f_t_f m hm g o w hc hf
  · exact rounded_f_t_t m hm g o w hc hf
  · exact rounded_t_f_f m hm g o w hc hf
  · exact rounded_t_f_t m hm g o w hc hf
  · exact rounded_t_t_f m hm g o w hc hf
  · exact rounded_t_t_t m hm g o w hc hf
set_option maxRecDepth 100000 in
set_option maxHeartbeats 1000000 in
theorem fixMul_calls (x y : Int) (up : Bool) (hx : -9223372036854775808 ≤ x ∧ x ≤ 9223372036854775807) (hy : -9223372036854775808 ≤ y ∧ y ≤ 9223372036854775807) (g : Nat) (o : Bool) (w : World) (hc : w.cell? ⟨g, 0, none⟩ = some (.bool o)) (hf : w.frozen? ⟨g, 0, none⟩ = false) :
    Calls Try.prog 98 #[.pointer (some ⟨g, 0, none⟩), .int .i64 x, .int .i64 y, .bool up] w fun e w' => e = .returned (.int .i64 (clamp (shiftI (x * y) up))) ∧ Marked w ⟨g, 0, none⟩ (.bool (o || over (shiftI (x * y) up))) w' := by
  have HX := Lib.hid (fun w => fsize_calls x hx w)
  have HY := Lib.hid (fun w => fsize_calls y hy w)
  have hmx := mag_i64 x hx
  have hmy := mag_i64 y hy
  have HM := Lib.hid (fun w => mul64_calls (mag x) (mag y) (by omega) (by omega) w)
  obtain ⟨p, hp⟩ : ∃ p, mag x * mag y = p := ⟨_, rfl⟩
  have hpr : 0 ≤ p ∧ p ≤ 85070591730234615865843651857942052864 := by
    rw [← hp]
    exact ⟨Int.mul_nonneg hmx.1 hmy.1, Int.le_trans (Int.mul_le_mul hmx.2 hmy.2 hmy.1 (by omega)) (by decide)⟩
  obtain ⟨hi, hhi⟩ : ∃ z, p / 18446744073709551616 = z := ⟨_, rfl⟩
  obtain ⟨lo, hlo⟩ : ∃ z, p % 18446744073709551616 = z := ⟨_, rfl⟩
  rw [hp, hhi, hlo] at HM
  have hhr : 0 ≤ hi ∧ hi < 18446744073709551616 := by omega
  have hlr : 0 ≤ lo ∧ lo < 18446744073709551616 := by omega
  have HQ : Hid ((#[.int .u64 (hi / 4294967296), .int .u64 (bits BinOp.or IntKind.u64 (IntKind.u64.wrap (hi * 4294967296)) (lo / 4294967296))] : Array Value) = wideC (p / 4294967296)) := Lib.hid (by
    rw [IntKind.wrap_u64, show hi * 4294967296 % 18446744073709551616 = hi % 4294967296 * 4294967296 by omega, or32 _ _ (by omega) (by omega)]
    unfold wideC
    rw [show p / 4294967296 / 18446744073709551616 % 18446744073709551616 = hi / 4294967296 by omega, show p / 4294967296 % 18446744073709551616 = hi % 4294967296 * 4294967296 + lo / 4294967296 by omega])
  have HRI : Hid (roundI (p / 4294967296) (bits BinOp.and IntKind.u64 lo 4294967295 != 0) (decide (x < 0) != decide (y < 0)) up = shiftI (x * y) up) := Lib.hid (by
    rw [← round_shift x y up, hp, and32 lo hlr, show lo % 4294967296 = p % 4294967296 by omega]
    congr 1
    by_cases h0 : p % 4294967296 = 0
    · rw [h0]; rfl
    · rw [decide_eq_true h0]; exact bne_iff_ne.2 h0)
  have hgl : g < w.heap.size := World.block_lt_of_cell? w ⟨g, 0, none⟩ hc
  have HC := Lib.hid hc
  have HF := Lib.hid hf
  clear hc hf
  go_enter Try.func98, Try.ntmps98
  go_wp2_with fail
  refine (HX.out _).mono ?_
  rintro e w1 ⟨rfl, rfl⟩
  go_wp2_with fail
  refine (HY.out _).mono ?_
  rintro e w2 ⟨rfl, rfl⟩
  go_wp2_with fail
  refine (HM.out _).mono ?_
  rintro e w3 ⟨rfl, rfl⟩
  go_wp2_with fail
  have hcA : (w3.alloc (.cells #[.int .u64 (hi / 4294967296), .int .u64 (bits BinOp.or IntKind.u64 (IntKind.u64.wrap (hi * 4294967296)) (lo / 4294967296))] 125)).cell? ⟨g, 0, none⟩ = some (.bool o) := cell_below (below_alloc (Below.refl _ _) _) HC.out
  have hfA : (w3.alloc (.cells #[.int .u64 (hi / 4294967296), .int .u64 (bits BinOp.or IntKind.u64 (IntKind.u64.wrap (hi * 4294967296)) (lo / 4294967296))] 125)).frozen? ⟨g, 0, none⟩ = false := (frozen_below (below_alloc (Below.refl _ _) _) hgl).trans HF.out
  have H := rounded_calls (p / 4294967296) (bits BinOp.and IntKind.u64 lo 4294967295 != 0) (decide (x < 0) != decide (y < 0)) up (by omega) g o _ hcA hfA
  rw [← HQ.out, HRI.out] at H
  refine H.mono ?_
  rintro e w5 ⟨rfl, hm⟩
  have Hm := Lib.hid (marked_below (below_alloc (Below.refl _ w3) _) hm)
  clear hm H hcA hfA
  go_wp2_with fail
  go_ret
  exact ⟨rfl, Hm.out⟩
end Go.Proofs.Ytlkdehflipfpbaa.big
namespace Go.Proofs.Ytlkdehflipfpbaa.big
open Go.RowKit Go.Proofs.YtlkdehflipfpbaaW.PrintWords
/-- The exact sum. -/
def tot (xs : List Int) : Int := xs.foldl (· + ·) 0
theorem tot_snoc (xs : List Int) (x : Int) : tot (xs ++ [x]) = tot xs + x := by simp [tot]
def inI (xs : List Int) : Prop := ∀ x ∈ xs, -9223372036854775808 ≤ x ∧ x ≤ 9223372036854775807
theorem tot_take (xs : List Int) (k : Nat) (h : k < xs.length) : tot (xs.take (k + 1)) = tot (xs.take k) + xs.getD k 0 := by
  rw [List.take_succ_eq_append_getElem h, tot_snoc]
  simp [List.getD_eq_getElem?_getD, h]
theorem getD_in (xs : List Int) (hx : inI xs) (k : Nat) (h : k < xs.length) : -9223372036854775808 ≤ xs.getD k 0 ∧ xs.getD k 0 ≤ 9223372036854775807 := by
  have : xs.getD k 0 = xs[k] := by simp [List.getD_eq_getElem?_getD, h]
  rw [this]
  exact hx _ (List.getElem_mem h)
theorem tot_bd (xs : List Int) (hx : inI xs) (k : Nat) (h : k ≤ xs.length) : -(9223372036854775808 * (k : Int)) ≤ tot (xs.take k) ∧ tot (xs.take k) ≤ 9223372036854775807 * (k : Int) := by
  induction k with
  | zero => simp [tot]
  | succ k ih =>
    have h1 := ih (by omega)
    have h2 := getD_in xs hx k (by omega)
    rw [tot_take xs k (by omega)]
    omega
set_option maxRecDepth 100000 in
set_option maxHeartbeats 2000000 in
theorem fixAdd_calls (A : Option Addr) (n c : Nat) (xs : List Int) (hx : inI xs) (g : Nat) (o : Bool) (w : World) (hr : ReadsInt w .i64 A n xs) (hc : w.cell? ⟨g, 0, none⟩ = some (.bool o)) (hf : w.frozen? ⟨g, 0, none⟩ = false) :
    Calls Try.prog 64 #[.pointer (some ⟨g, 0, none⟩), .slice A n c] w fun e w' => e = .returned (.int .i64 (clamp (tot xs))) ∧ Marked w ⟨g, 0, none⟩ (.bool (o || over (tot xs))) w' := by
  have hxl := hr.1
  have hn := hr.2.1
  have htb := tot_bd xs hx xs.length (Nat.le_refl _)
  rw [List.take_length] at htb
  have HE := Lib.hid (fun w hc hf => fits_calls (tot xs) (by omega) g o w hc hf)
  have hW0 : OneW w 0 0 (w.alloc (.cells #[.int .u64 0, .int .u64 0] 125)) := ⟨heap_alloc_new w _, (Below.refl _ w).alloc (Nat.le_refl _) _⟩
  have HW0 := Lib.hid hW0
  have hgl : g < w.heap.size := World.block_lt_of_cell? w ⟨g, 0, none⟩ hc
  have HC := Lib.hid hc
  have HF := Lib.hid hf
  have HR := Lib.hid hr
  have HX := Lib.hid hx
  have HXL := Lib.hid hxl
  clear hW0 hc hf hr hx htb hxl
  go_enter Try.func64, Try.ntmps64
  go_wp2_with fail
  go_loopw [10] (fun i W => ∃ k : Nat, k ≤ n ∧ i = .int .i64 k ∧ ∃ h l, wideC (tot (xs.take k)) = #[.int .u64 h, .int .u64 l] ∧ OneW w h l W) (fun i _ => n - (intOf i).toNat)
  case atStart => exact ⟨0, by omega, rfl, 0, 0, rfl, HW0.out⟩
  case round =>
    obtain ⟨k, hk, rfl, h, l, hw, hW⟩ := hrel
    by_cases hlt : k < n
    · obtain ⟨ad, hA, hcell⟩ := HR.out.2.2 (by omega)
      have hck := cell_below hW.2 (hcell k hlt)
      obtain ⟨x, hxk⟩ : ∃ x, xs.getD k 0 = x := ⟨_, rfl⟩
      have HO := Lib.hid (fun w => of_calls (xs.getD k 0) (getD_in xs HX.out k (by rw [HXL.out]; exact hlt)) w)
      have HP := Lib.hid (fun w => wplus_calls (tot (xs.take k)) (xs.getD k 0) w)
      rw [← tot_take xs k (by rw [HXL.out]; exact hlt), hw] at HP
      obtain ⟨h1, l1, e1⟩ := wideC_eq (xs.getD k 0)
      obtain ⟨h2, l2, e2⟩ := wideC_eq (tot (xs.take (k + 1)))
      rw [e1] at HO HP
      rw [e2] at HP
      rw [hxk] at HO hck
      have HE2 := Lib.hid e2
      have HWk := Lib.hid hW
      subst hA
      clear hxk hw e1 e2 hW hcell
      go_wp2_with fail
      have k0 := blk_cell HWk.out.1 0
      have k1 := blk_cell HWk.out.1 1
      have z0 := blk_frozen HWk.out.1 0
      have z1 := blk_frozen HWk.out.1 1
      have hlt9 := blk_lt HWk.out.1
      go_region_with ((first | (go_at_call 90; refine (HO.out _).mono ?_; rintro e w8 ⟨rfl, hb8⟩; have hS8 := HWk.out.drew.below hb8; have k80 := blk_cell hS8.1 0; have k81 := blk_cell hS8.1 1) | (go_at_call 89; refine (HP.out _).mono ?_; rintro e w9 ⟨rfl, hb9⟩; have hS9 := OneW.below (by assumption) hb9; have k90 := blk_cell hS9.1 0; have k91 := blk_cell hS9.1 1; have z90 := blk_frozen hS9.1 0; have z91 := blk_frozen hS9.1 1; have hlt10 := blk_lt hS9.1)))
      all_goals
        have n1 : OneW w h2 l2 ((w9.setCell ⟨w.heap.size, 0, none⟩ (.int .u64 h2)).setCell ⟨w.heap.size, 1, none⟩ (.int .u64 l2)) := ⟨blk_put (blk_put (cs' := #[.int .u64 h2, _]) hS9.1 0 _ rfl) 1 _ rfl, (hS9.2.setCell (Nat.le_refl _) _).setCell (Nat.le_refl _) _⟩
        have N1 := Lib.hid n1
        clear n1 k0 k1 z0 z1 k90 k91 z90 z91 hS9
        go_wp2_with fail
        refine ⟨⟨k + 1, by omega, by go_num, h2, l2, HE2.out, N1.out⟩, by simp [intOf]; omega⟩
    · have hkn : k = n := by omega
      have hE : wideC (tot xs) = #[.int .u64 h, .int .u64 l] := by rw [← hw, hkn, ← HXL.out, List.take_length]
      rw [hE] at HE
      have k0 := blk_cell hW.1 0
      have k1 := blk_cell hW.1 1
      have HWk := Lib.hid hW
      have HN := Lib.hid hkn
      clear hw hE hW hkn
      go_wp2_with fail
      refine (HE.out _ (cell_below HWk.out.2 HC.out) ((frozen_below HWk.out.2 hgl).trans HF.out)).mono ?_
      rintro e w5 ⟨rfl, hm⟩
      have Hm := Lib.hid (marked_below HWk.out.2 hm)
      clear hm k0 k1
      go_wp2_with fail
      go_ret
      exact ⟨rfl, Hm.out⟩
/-- The number n lies at g, and the list stays. -/
theorem mag_tot (xs : List Int) (hx : inI xs) (k : Nat) (hk : k ≤ xs.length) (hl : xs.length ≤ 9223372036854775807) : mag (tot (xs.take k)) < 170141183460469231731687303715884105728 := by
  have h := tot_bd xs hx k hk
  unfold mag
  split <;> omega
theorem Two.store2 {w W : World} {m n s : Bool} {a b d : Nat → Int} (h : Two w m a n b W) :
    Two w m a s d (((((((W.setCell ⟨w.heap.size + 1, 0, none⟩ (.bool s)).setCell ⟨w.heap.size + 1, 1, none⟩ (.int .i64 (d 0))).setCell ⟨w.heap.size + 1, 2, none⟩ (.int .i64 (d 1))).setCell ⟨w.heap.size + 1, 3, none⟩ (.int .i64 (d 2))).setCell ⟨w.heap.size + 1, 4, none⟩ (.int .i64 (d 3))).setCell ⟨w.heap.size + 1, 5, none⟩ (.int .i64 (d 4))).setCell ⟨w.heap.size + 1, 6, none⟩ (.int .i64 (d 5))) := by
  have hne : ∀ i, w.heap.size ≠ (⟨w.heap.size + 1, i, none⟩ : Addr).block := fun i => by show w.heap.size ≠ w.heap.size + 1; omega
  have hle : ∀ i, w.heap.size ≤ (⟨w.heap.size + 1, i, none⟩ : Addr).block := fun i => by show w.heap.size ≤ w.heap.size + 1; omega
  exact ⟨blk_far (blk_far (blk_far (blk_far (blk_far (blk_far (blk_far h.1 (hne 0) _) (hne 1) _) (hne 2) _) (hne 3) _) (hne 4) _) (hne 5) _) (hne 6) _, big_store h.2.1,
    ((((((h.2.2.setCell (hle 0) _).setCell (hle 1) _).setCell (hle 2) _).setCell (hle 3) _).setCell (hle 4) _).setCell (hle 5) _).setCell (hle 6) _⟩
set_option maxRecDepth 100000 in
set_option maxHeartbeats 4000000 in
theorem total_calls (A : Option Addr) (n c : Nat) (xs : List Int) (hx : inI xs) (w : World) (hr : ReadsInt w .i64 A n xs) :
    Calls Try.prog 93 #[.slice A n c] w fun e w' => e = .returned (.agg (bigN (tot xs))) ∧ Below w.heap.size w w' := by
  have hxl := hr.1
  have hn := hr.2.1
  have HB0 : Hid (∀ k, ∃ m d, bigN k = bigC m d) := Lib.hid (fun k => ⟨_, _, rfl⟩)
  have hT0 : Two w false big0 false big0 ((w.alloc (.cells (bigC false big0) 132)).alloc (.cells (bigC false big0) 132)) := ⟨heap_old _ _ _ (heap_alloc_new w _), heap_at1 w _ _, ((Below.refl _ w).alloc (Nat.le_refl _) _).alloc (by simp) _⟩
  have HT0 := Lib.hid hT0
  have HR := Lib.hid hr
  have HX := Lib.hid hx
  have HXL := Lib.hid hxl
  clear hT0 hr hx hxl
  go_enter Try.func93, Try.ntmps93
  go_wp2_with fail
  go_loopw [4] (fun i W => ∃ k : Nat, k ≤ n ∧ i = .int .i64 k ∧ ∃ m d, bigN (tot (xs.take k)) = bigC m d ∧ Two w false big0 m d W) (fun i _ => n - (intOf i).toNat)
  case atStart => exact ⟨0, by omega, rfl, false, big0, rfl, HT0.out⟩
  case round =>
    obtain ⟨k, hk, rfl, m, d, hw, hW⟩ := hrel
    by_cases hlt : k < n
    · obtain ⟨ad, hA, hcell⟩ := HR.out.2.2 (by omega)
      have hck := cell_below hW.2.2 (hcell k hlt)
      have hadl : ad.block < w.heap.size := by have := World.block_lt_of_cell? w _ (hcell k hlt); rwa [add_block] at this
      obtain ⟨x, hxk⟩ : ∃ x, xs.getD k 0 = x := ⟨_, rfl⟩
      have hmt := mag_tot xs HX.out k (by rw [HXL.out]; omega) (by rw [HXL.out]; omega)
      have hgx := getD_in xs HX.out k (by rw [HXL.out]; exact hlt)
      have hmx := mag_i64 _ hgx
      have HO := Lib.hid (fun w => ofV (xs.getD k 0) hgx w)
      have HP := Lib.hid (fun w => addV (tot (xs.take k)) (xs.getD k 0) (by omega) w)
      rw [← tot_take xs k (by rw [HXL.out]; exact hlt), hw] at HP
      obtain ⟨m1, d1, e1⟩ := HB0.out (xs.getD k 0)
      obtain ⟨m2, d2, e2⟩ := HB0.out (tot (xs.take (k + 1)))
      rw [e1] at HO HP
      rw [e2] at HP
      rw [hxk] at HO hck
      have HE2 := Lib.hid e2
      have HWk := Lib.hid hW
      have HCK := Lib.hid hck
      subst hA
      clear hxk hw e1 e2 hW hcell hmt hgx hmx
      have k0 : wr.cell? ⟨w.heap.size + 1, 0, none⟩ = some (Value.bool m) := blk_cell HWk.out.2.1 0
      have k1 : wr.cell? ⟨w.heap.size + 1, 1, none⟩ = some (Value.int .i64 (d 0)) := blk_cell HWk.out.2.1 1
      have k2 : wr.cell? ⟨w.heap.size + 1, 2, none⟩ = some (Value.int .i64 (d 1)) := blk_cell HWk.out.2.1 2
      have k3 : wr.cell? ⟨w.heap.size + 1, 3, none⟩ = some (Value.int .i64 (d 2)) := blk_cell HWk.out.2.1 3
      have k4 : wr.cell? ⟨w.heap.size + 1, 4, none⟩ = some (Value.int .i64 (d 3)) := blk_cell HWk.out.2.1 4
      have k5 : wr.cell? ⟨w.heap.size + 1, 5, none⟩ = some (Value.int .i64 (d 4)) := blk_cell HWk.out.2.1 5
      have k6 : wr.cell? ⟨w.heap.size + 1, 6, none⟩ = some (Value.int .i64 (d 5)) := blk_cell HWk.out.2.1 6
      have z0 : wr.frozen? ⟨w.heap.size + 1, 0, none⟩ = false := blk_frozen HWk.out.2.1 0
      have z1 : wr.frozen? ⟨w.heap.size + 1, 1, none⟩ = false := blk_frozen HWk.out.2.1 1
      have z2 : wr.frozen? ⟨w.heap.size + 1, 2, none⟩ = false := blk_frozen HWk.out.2.1 2
      have z3 : wr.frozen? ⟨w.heap.size + 1, 3, none⟩ = false := blk_frozen HWk.out.2.1 3
      have z4 : wr.frozen? ⟨w.heap.size + 1, 4, none⟩ = false := blk_frozen HWk.out.2.1 4
      have z5 : wr.frozen? ⟨w.heap.size + 1, 5, none⟩ = false := blk_frozen HWk.out.2.1 5
      have z6 : wr.frozen? ⟨w.heap.size + 1, 6, none⟩ = false := blk_frozen HWk.out.2.1 6
      have hlt9 := blk_lt HWk.out.2.1
      go_wp2_with fail
      go_region_with ((first | (go_at_call 96; refine (HO.out _).mono ?_; rintro e w8 ⟨he8, hb8⟩; obtain rfl : e = .returned (.agg #[.bool m1, .int .i64 (d1 0), .int .i64 (d1 1), .int .i64 (d1 2), .int .i64 (d1 3), .int .i64 (d1 4), .int .i64 (d1 5)]) := he8; have hS8 := HWk.out.drew.below hb8; have k80 : w8.cell? ⟨w.heap.size + 1, 0, none⟩ = some (Value.bool m) := blk_cell hS8.2.1 0; have k81 : w8.cell? ⟨w.heap.size + 1, 1, none⟩ = some (Value.int .i64 (d 0)) := blk_cell hS8.2.1 1; have k82 : w8.cell? ⟨w.heap.size + 1, 2, none⟩ = some (Value.int .i64 (d 1)) := blk_cell hS8.2.1 2; have k83 : w8.cell? ⟨w.heap.size + 1, 3, none⟩ = some (Value.int .i64 (d 2)) := blk_cell hS8.2.1 3; have k84 : w8.cell? ⟨w.heap.size + 1, 4, none⟩ = some (Value.int .i64 (d 3)) := blk_cell hS8.2.1 4; have k85 : w8.cell? ⟨w.heap.size + 1, 5, none⟩ = some (Value.int .i64 (d 4)) := blk_cell hS8.2.1 5; have k86 : w8.cell? ⟨w.heap.size + 1, 6, none⟩ = some (Value.int .i64 (d 5)) := blk_cell hS8.2.1 6) | (go_at_call 95; refine (HP.out _).mono ?_; rintro e w9 ⟨he9, hb9⟩; obtain rfl : e = .returned (.agg #[.bool m2, .int .i64 (d2 0), .int .i64 (d2 1), .int .i64 (d2 2), .int .i64 (d2 3), .int .i64 (d2 4), .int .i64 (d2 5)]) := he9; have hS9 := Two.below (by assumption) hb9; have k90 : w9.cell? ⟨w.heap.size + 1, 0, none⟩ = some (Value.bool m) := blk_cell hS9.2.1 0; have k91 : w9.cell? ⟨w.heap.size + 1, 1, none⟩ = some (Value.int .i64 (d 0)) := blk_cell hS9.2.1 1; have k92 : w9.cell? ⟨w.heap.size + 1, 2, none⟩ = some (Value.int .i64 (d 1)) := blk_cell hS9.2.1 2; have k93 : w9.cell? ⟨w.heap.size + 1, 3, none⟩ = some (Value.int .i64 (d 2)) := blk_cell hS9.2.1 3; have k94 : w9.cell? ⟨w.heap.size + 1, 4, none⟩ = some (Value.int .i64 (d 3)) := blk_cell hS9.2.1 4; have k95 : w9.cell? ⟨w.heap.size + 1, 5, none⟩ = some (Value.int .i64 (d 4)) := blk_cell hS9.2.1 5; have k96 : w9.cell? ⟨w.heap.size + 1, 6, none⟩ = some (Value.int .i64 (d 5)) := blk_cell hS9.2.1 6; have z90 : w9.frozen? ⟨w.heap.size + 1, 0, none⟩ = false := blk_frozen hS9.2.1 0; have z91 : w9.frozen? ⟨w.heap.size + 1, 1, none⟩ = false := blk_frozen hS9.2.1 1; have z92 : w9.frozen? ⟨w.heap.size + 1, 2, none⟩ = false := blk_frozen hS9.2.1 2; have z93 : w9.frozen? ⟨w.heap.size + 1, 3, none⟩ = false := blk_frozen hS9.2.1 3; have z94 : w9.frozen? ⟨w.heap.size + 1, 4, none⟩ = false := blk_frozen hS9.2.1 4; have z95 : w9.frozen? ⟨w.heap.size + 1, 5, none⟩ = false := blk_frozen hS9.2.1 5; have z96 : w9.frozen? ⟨w.heap.size + 1, 6, none⟩ = false := blk_frozen hS9.2.1 6; have hlt10 := blk_lt hS9.2.1)))
      all_goals
        have n1 : Two w false big0 m2 d2 ((((((((w9.setCell ⟨w.heap.size + 1, 0, none⟩ (.bool m2)).setCell ⟨w.heap.size + 1, 1, none⟩ (.int .i64 (d2 0))).setCell ⟨w.heap.size + 1, 2, none⟩ (.int .i64 (d2 1))).setCell ⟨w.heap.size + 1, 3, none⟩ (.int .i64 (d2 2))).setCell ⟨w.heap.size + 1, 4, none⟩ (.int .i64 (d2 3))).setCell ⟨w.heap.size + 1, 5, none⟩ (.int .i64 (d2 4))).setCell ⟨w.heap.size + 1, 6, none⟩ (.int .i64 (d2 5)))) := Two.store2 hS9
        have N1 := Lib.hid n1
        clear n1 k0 k1 k2 k3 k4 k5 k6 k90 k91 k92 k93 k94 k95 k96 z90 z91 z92 z93 z94 z95 z96 z0 z1 z2 z3 z4 z5 z6 hS9
        go_wp2_with fail
        refine ⟨⟨k + 1, by omega, by go_num, m2, d2, HE2.out, N1.out⟩, by simp [intOf]; omega⟩
    · have hkn : k = n := by omega
      have hE : bigC m d = bigN (tot xs) := by rw [← hw, hkn, ← HXL.out, List.take_length]
      have k0 : wr.cell? ⟨w.heap.size + 1, 0, none⟩ = some (Value.bool m) := blk_cell hW.2.1 0
      have k1 : wr.cell? ⟨w.heap.size + 1, 1, none⟩ = some (Value.int .i64 (d 0)) := blk_cell hW.2.1 1
      have k2 : wr.cell? ⟨w.heap.size + 1, 2, none⟩ = some (Value.int .i64 (d 1)) := blk_cell hW.2.1 2
      have k3 : wr.cell? ⟨w.heap.size + 1, 3, none⟩ = some (Value.int .i64 (d 2)) := blk_cell hW.2.1 3
      have k4 : wr.cell? ⟨w.heap.size + 1, 4, none⟩ = some (Value.int .i64 (d 3)) := blk_cell hW.2.1 4
      have k5 : wr.cell? ⟨w.heap.size + 1, 5, none⟩ = some (Value.int .i64 (d 4)) := blk_cell hW.2.1 5
      have k6 : wr.cell? ⟨w.heap.size + 1, 6, none⟩ = some (Value.int .i64 (d 5)) := blk_cell hW.2.1 6
      have z0 : wr.frozen? ⟨w.heap.size + 1, 0, none⟩ = false := blk_frozen hW.2.1 0
      have z1 : wr.frozen? ⟨w.heap.size + 1, 1, none⟩ = false := blk_frozen hW.2.1 1
      have z2 : wr.frozen? ⟨w.heap.size + 1, 2, none⟩ = false := blk_frozen hW.2.1 2
      have z3 : wr.frozen? ⟨w.heap.size + 1, 3, none⟩ = false := blk_frozen hW.2.1 3
      have z4 : wr.frozen? ⟨w.heap.size + 1, 4, none⟩ = false := blk_frozen hW.2.1 4
      have z5 : wr.frozen? ⟨w.heap.size + 1, 5, none⟩ = false := blk_frozen hW.2.1 5
      have z6 : wr.frozen? ⟨w.heap.size + 1, 6, none⟩ = false := blk_frozen hW.2.1 6
      have y0 : wr.cell? ⟨w.heap.size, 0, none⟩ = some (Value.bool false) := blk_cell hW.1 0
      have y1 : wr.cell? ⟨w.heap.size, 1, none⟩ = some (Value.int .i64 0) := blk_cell hW.1 1
      have y2 : wr.cell? ⟨w.heap.size, 2, none⟩ = some (Value.int .i64 0) := blk_cell hW.1 2
      have y3 : wr.cell? ⟨w.heap.size, 3, none⟩ = some (Value.int .i64 0) := blk_cell hW.1 3
      have y4 : wr.cell? ⟨w.heap.size, 4, none⟩ = some (Value.int .i64 0) := blk_cell hW.1 4
      have y5 : wr.cell? ⟨w.heap.size, 5, none⟩ = some (Value.int .i64 0) := blk_cell hW.1 5
      have y6 : wr.cell? ⟨w.heap.size, 6, none⟩ = some (Value.int .i64 0) := blk_cell hW.1 6
      have x0 : wr.frozen? ⟨w.heap.size, 0, none⟩ = false := blk_frozen hW.1 0
      have x1 : wr.frozen? ⟨w.heap.size, 1, none⟩ = false := blk_frozen hW.1 1
      have x2 : wr.frozen? ⟨w.heap.size, 2, none⟩ = false := blk_frozen hW.1 2
      have x3 : wr.frozen? ⟨w.heap.size, 3, none⟩ = false := blk_frozen hW.1 3
      have x4 : wr.frozen? ⟨w.heap.size, 4, none⟩ = false := blk_frozen hW.1 4
      have x5 : wr.frozen? ⟨w.heap.size, 5, none⟩ = false := blk_frozen hW.1 5
      have x6 : wr.frozen? ⟨w.heap.size, 6, none⟩ = false := blk_frozen hW.1 6
      have hlt9 := blk_lt hW.2.1
      have HWk := Lib.hid hW.2.2
      have HE := Lib.hid hE
      clear hw hE hW hkn
      go_wp2_with fail
      refine bodyPost_ret (v := .agg #[.bool m, .int .i64 (d 0), .int .i64 (d 1), .int .i64 (d 2), .int .i64 (d 3), .int .i64 (d 4), .int .i64 (d 5)]) (by simp [results, Try.results93, go_sem, *]) rfl ?_
      have hg := Nat.le_refl w.heap.size
      exact ⟨by rw [← HE.out]; rfl, ((((((HWk.out.setCell hg _).setCell hg _).setCell hg _).setCell hg _).setCell hg _).setCell hg _).setCell hg _⟩
set_option maxRecDepth 100000 in
set_option maxHeartbeats 1000000 in
theorem refAdd_calls (A : Option Addr) (n c : Nat) (xs : List Int) (hx : inI xs) (g : Nat) (o : Bool) (w : World) (hr : ReadsInt w .i64 A n xs) (hc : w.cell? ⟨g, 0, none⟩ = some (.bool o)) (hf : w.frozen? ⟨g, 0, none⟩ = false) :
    Calls Try.prog 70 #[.pointer (some ⟨g, 0, none⟩), .slice A n c] w fun e w' => e = .returned (.int .i64 (clamp (tot xs))) ∧ Marked w ⟨g, 0, none⟩ (.bool (o || over (tot xs))) w' := by
  have hmt := mag_tot xs hx xs.length (Nat.le_refl _) (by rw [hr.1]; exact hr.2.1)
  rw [List.take_length] at hmt
  have HT := Lib.hid (fun w hr => total_calls A n c xs hx w hr)
  have HE := Lib.hid (fun w hc hf => refEnd_calls (tot xs) (by omega) g o w hc hf)
  have hgl : g < w.heap.size := World.block_lt_of_cell? w ⟨g, 0, none⟩ hc
  have HC := Lib.hid hc
  have HF := Lib.hid hf
  have HR := Lib.hid hr
  clear hc hf hr hmt
  go_enter Try.func70, Try.ntmps70
  go_wp2_with fail
  refine (HT.out _ HR.out).mono ?_
  rintro e w1 ⟨rfl, hb1⟩
  go_wp2_with fail
  refine (HE.out _ (cell_below hb1 HC.out) ((frozen_below hb1 hgl).trans HF.out)).mono ?_
  rintro e w5 ⟨rfl, hm⟩
  have Hm := Lib.hid (marked_below hb1 hm)
  clear hm hb1
  go_wp2_with fail
  go_ret
  exact ⟨rfl, Hm.out⟩
end Go.Proofs.Ytlkdehflipfpbaa.big
namespace Go.Proofs.Ytlkdehflipfpbaa.big
open Go.RowKit Go.Proofs.YtlkdehflipfpbaaW.PrintWords
def inIb (l : List Int) : Bool := l.all fun x => decide (-9223372036854775808 ≤ x ∧ x ≤ 9223372036854775807)
theorem inIb_iff (l : List Int) : inIb l = true ↔ inI l := by
  unfold inIb inI
  rw [List.all_eq_true]
  exact ⟨fun h x hx => of_decide_eq_true (h x hx), fun h x hx => decide_eq_true (h x hx)⟩
theorem reads_C {w : World} {k : IntKind} {A : Option Addr} {n : Nat} {xs : List Int} (h : Kd.C (Kd.int k) w A n xs) : ReadsInt w k A n xs := Kd.reads_of_C (d := 0) h
theorem acc_calls (g : Nat) (w : World) : Calls Try.prog 68 #[.pointer (some ⟨g, 0, none⟩)] w fun e w' => e = .returned (.pointer (some ⟨g, 0, none⟩)) ∧ w = w' := by
  go_enter Try.func68, Try.ntmps68
  go_wp2_with fail
  go_ret
  exact ⟨rfl, rfl⟩
end Go.Proofs.Ytlkdehflipfpbaa.big
