import Derived.Test.YtlkdehflipfpbaaA2
namespace Go.Proofs.Ytlkdehflipfpbaa
open Go.RowKit Go.Proofs.YtlkdehflipfpbaaW.PrintWords

theorem or_join (x b : Int) (hx : -36028797018963968 ≤ x) (hx' : x < 36028797018963968) (h0 : 0 ≤ b) (h1 : b < 256) : bits .or .i64 (x * 256) b = x * 256 + b := by
  obtain ⟨b, rfl⟩ := Int.eq_ofNat_of_zero_le h0
  show IntKind.i64.wrap (((BitVec.ofInt 64 (x * 256) ||| BitVec.ofInt 64 (b : Int)).toNat : Nat) : Int) = _
  rw [IntKind.wrap_i64, BitVec.toNat_or, BitVec.toNat_ofInt, BitVec.toNat_ofInt]
  have e1 : (((b : Int) % ((2 : Nat) ^ 64 : Nat)).toNat) = b := by omega
  obtain ⟨q, hq⟩ : ∃ q : Nat, ((x * 256) % ((2 : Nat) ^ 64 : Nat)).toNat = 2 ^ 8 * q := ⟨((x * 256) % ((2 : Nat) ^ 64 : Nat)).toNat / 256, by omega⟩
  rw [e1, hq, ← Nat.two_pow_add_eq_or_of_lt (by omega)]
  omega
theorem ofLow (x b : Int) : x * 256 + b = b + 256 * x := by omega

def sgn8 (b : Int) : Int := if b < 128 then b else b - 256
def getF (l : List UInt8) (v : Int) : Int := l.foldl (fun v b => v * 256 + (b.toNat : Int)) v
def getBe : List UInt8 → Int
  | [] => 0
  | b :: l => getF l (sgn8 b.toNat)
/-- After k bytes. -/
def getK (l : List UInt8) (k : Nat) : Int := getF ((l.drop 1).take k) (sgn8 ((l.headD 0).toNat))
theorem getK_full (l : List UInt8) (h : 0 < l.length) : getK l (l.length - 1) = getBe l := by
  cases l with
  | nil => simp at h
  | cons b l => simp [getK, getBe, List.take_of_length_le]
theorem getK_succ (l : List UInt8) (k : Nat) (h : k + 1 < l.length) : getK l (k + 1) = getK l k * 256 + (l[k + 1].toNat : Int) := by
  unfold getK
  rw [List.take_succ_eq_append_getElem (by simp; omega)]
  simp only [getF, List.foldl_append, List.foldl_cons, List.foldl_nil, List.getElem_drop]
  congr 3
  simp [Nat.add_comm]
theorem getF_range (l : List UInt8) : ∀ (v : Int) (p : Nat), -(2 ^ p : Int) ≤ v → v < (2 ^ p : Int) → -(2 ^ (p + 8 * l.length) : Int) ≤ getF l v ∧ getF l v < (2 ^ (p + 8 * l.length) : Int) := by
  induction l with
  | nil => intro v p h1 h2; exact ⟨by simpa [getF] using h1, by simpa [getF] using h2⟩
  | cons b l ih =>
    intro v p h1 h2
    have hb := b.toNat_lt
    have hp : (2 : Int) ^ (p + 8) = 2 ^ p * 256 := by rw [Int.pow_add]; rfl
    have := ih (v * 256 + (b.toNat : Int)) (p + 8) (by omega) (by omega)
    rw [show p + 8 * (b :: l).length = p + 8 + 8 * l.length from by simp [List.length_cons]; omega]
    exact this
theorem getK_range (l : List UInt8) (k : Nat) (h : k ≤ 6) : -36028797018963968 ≤ getK l k ∧ getK l k < 36028797018963968 := by
  have hb := (l.headD 0).toNat_lt
  have := getF_range ((l.drop 1).take k) (sgn8 ((l.headD 0).toNat)) 7 (by unfold sgn8; split <;> omega) (by unfold sgn8; split <;> omega)
  have hl : ((l.drop 1).take k).length ≤ 6 := Nat.le_trans (List.length_take_le _ _) h
  have hm : (2 : Int) ^ (7 + 8 * ((l.drop 1).take k).length) ≤ 2 ^ 55 := by
    exact_mod_cast Nat.pow_le_pow_right (by decide : 0 < 2) (by omega : 7 + 8 * ((l.drop 1).take k).length ≤ 55)
  have h55 : (2 : Int) ^ 55 = 36028797018963968 := by decide
  unfold getK
  omega
theorem head_eq (s : ByteArray) (h : 0 < s.size) : s.data.toList.headD 0 = s[0] := by
  have h2 : 0 < s.data.toList.length := by rw [data_length]; exact h
  cases e : s.data.toList with
  | nil => simp [e] at h2
  | cons b l =>
    have : s[0] = s.data.toList[0] := rfl
    rw [this]
    simp [e]

set_option maxRecDepth 100000 in
set_option maxHeartbeats 400000 in
theorem fixGet_calls (s : ByteArray) (h0 : 1 ≤ s.size) (h1 : s.size ≤ 8) (w : World) : Calls Try.prog 106 #[.string s] w fun e w' => e = .returned (.tuple #[.int .i64 (getBe s.data.toList), .int .i64 0]) ∧ w = w' := by
  have hd0 : decide ((s.size : Int) < 1) = false := decide_eq_false (by omega)
  have hd1 : decide (8 < (s.size : Int)) = false := decide_eq_false (by omega)
  have hd0' : decide (s.size < 1) = false := decide_eq_false (by omega)
  have hd1' : decide (8 < s.size) = false := decide_eq_false (by omega)
  go_enter Try.func106, Try.ntmps106
  go_wp2_with fail
  go_loop [4, 5] (fun v i => ∃ k : Nat, k + 1 ≤ s.size ∧ i = .int .i64 ((k + 1 : Nat) : Int) ∧ v = .int .i64 (getK s.data.toList k)) (fun _ i => s.size - (intOf i).toNat)
  case atStart => exact ⟨0, by omega, rfl, by
    have hb := s[0].toNat_lt
    have : wrap64 (IntKind.i8.wrap (s[0].toNat : Int)) = sgn8 (s[0].toNat : Int) := by
      simp only [IntKind.wrap, IntKind.bits, IntKind.signed, wrap64, sgn8]
      simp
      omega
    rw [this]
    simp only [getK, List.take_zero, getF, List.foldl_nil, head_eq s (by omega)]⟩
  case round =>
    obtain ⟨k, hk, rfl, rfl⟩ := hrel
    by_cases hlt : k + 1 < s.size
    · have hr := getK_range s.data.toList k (by omega)
      obtain ⟨x, hx⟩ : ∃ x, x = getK s.data.toList k := ⟨_, rfl⟩
      obtain ⟨b, hb⟩ : ∃ b, b = (s[k + 1].toNat : Int) := ⟨_, rfl⟩
      have hb1 : 0 ≤ b ∧ b < 256 := by have := s[k + 1].toNat_lt; omega
      have Ho := Lib.hid (or_join x b (by omega) (by omega) hb1.1 hb1.2)
      have Hs : Hid (getK s.data.toList (k + 1) = x * 256 + b) := Lib.hid (by rw [getK_succ _ k (by rw [data_length]; exact hlt), ← hx, hb]; rfl)
      rw [← hx] at hr ⊢
      clear hx
      have Hb := Lib.hid hb
      clear hb
      have Hw : Hid (wrap64 (s[k + 1].toNat : Int) = b) := Lib.hid (by rw [← Hb.out]; simp only [wrap64]; omega)
      go_wp2_with fail
      go_round
      case rel => exact ⟨k + 1, by omega, by go_num, by rw [Hw.out, Ho.out, Hs.out]⟩
      case measure => simp [intOf]; omega
    · have Hk : Hid (getK s.data.toList k = getBe s.data.toList) := Lib.hid (by
        have : k = s.data.toList.length - 1 := by rw [data_length]; omega
        rw [this]; exact getK_full _ (by rw [data_length]; omega))
      go_wp2_with fail
      go_ret2
      exact ⟨by rw [Hk.out]; rfl, rfl⟩

set_option maxRecDepth 100000 in
theorem num_calls (s : ByteArray) (h0 : 1 ≤ s.size) (h1 : s.size ≤ 8) (w : World) : Calls Try.prog 81 #[.string s] w fun e w' => e = .returned (.int .i64 (getBe s.data.toList)) ∧ w = w' := by
  go_enter Try.func81, Try.ntmps81
  go_wp2_with (go_at_call 106; refine (fixGet_calls s h0 h1 _).mono ?_; rintro e w' ⟨rfl, rfl⟩)
  go_ret
  exact ⟨rfl, rfl⟩
set_option maxRecDepth 100000 in
theorem wput8_calls (v : Int) (w : World) : Calls Try.prog 38 #[.int .i64 v, .int .i64 8] w fun e w' => e = .returned (.string (strOfNums (beI v 8))) ∧ Below w.heap.size w w' := by
  go_enter Try.func38, Try.ntmps38
  go_wp2_with (go_at_call 37; refine (fixPut8_calls v _).mono ?_; rintro e w' ⟨rfl, hb⟩)
  go_ret
  exact ⟨rfl, hb⟩
set_option maxRecDepth 100000 in
theorem wput5_calls (v : Int)(h0 : 0 ≤ v) (h1 : v < 4294967296) (w : World) : Calls Try.prog 38 #[.int .i64 v, .int .i64 5] w fun e w' => e = .returned (.string (strOfNums (beI v 5))) ∧ Below w.heap.size w w' := by
  go_enter Try.func38, Try.ntmps38
  go_wp2_with (go_at_call 37; refine (fixPut5_calls v h0 h1 _).mono ?_; rintro e w' ⟨rfl, hb⟩)
  go_ret
  exact ⟨rfl, hb⟩
end Go.Proofs.Ytlkdehflipfpbaa
