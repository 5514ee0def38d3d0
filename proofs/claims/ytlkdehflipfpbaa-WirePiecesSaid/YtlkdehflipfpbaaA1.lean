import Derived.Test.YtlkdehflipfpbaaProg
import Derived.Below
import Derived.Deep.Draws
import Derived.Deep.AppendLies
import Derived.Maps.AppendAt
import Derived.OwnWalk
import Derived.Laws.BytesArg
import Derived.Laws.MakeOwn
import Derived.Laws.OwnMore
import Derived.Deep.OwnRows
import Derived.Tactics
import Derived.Lib.ConvBytes
import Derived.Laws.Slices
import Derived.WalkKit
import Derived.KernelRfl
import Derived.RowKit3
import Derived.Deep.LoopGhost
import Derived.Deep.QuietTactic
import Derived.BigQuiet
import Derived.WideLaws
import Derived.Deep.DeepCutAuto
import Derived.Deep.CutBlock
import Derived.Deep.RegionHeld3
import Derived.Laws.Rows
import Derived.Lib.AppendStr
import Derived.ArgAppend
import Derived.Laws.IdiomCopy
import Derived.OrdersHeld
import Derived.Laws.BitsLemmas
import Derived.RowKit
import Derived.Outline
import Derived.WalkSmall
import Derived.WalkLawsBesides
import Derived.WalkSpells
import Derived.Lib.Hide
import Derived.Test.YtlkdehflipfpbaaWWords
namespace Go.Proofs.Ytlkdehflipfpbaa
open Go.RowKit Go.Proofs.YtlkdehflipfpbaaW.PrintWords

/-! ### check sums -/
def crcBit (x : Int) : Int := if (bits .and .u32 x 1 == 1) = true then bits .xor .u32 (x / 2) 3988292384 else x / 2
def crcN : Nat → Int → Int
  | 0, x => x
  | n + 1, x => crcBit (crcN n x)
def crcF (l : List UInt8) : Int := l.foldl (fun x b => crcN 8 (bits .xor .u32 x (b.toNat : Int))) 4294967295
def crc (l : List UInt8) : Int := bits .xor .u32 (crcF l) 4294967295
theorem xor_range (x y : Int) : 0 ≤ bits .xor .u32 x y ∧ bits .xor .u32 x y < 4294967296 := by
  unfold bits
  rw [IntKind.wrap_u32]
  omega
theorem crcBit_range (x : Int) (h : 0 ≤ x ∧ x < 4294967296) : 0 ≤ crcBit x ∧ crcBit x < 4294967296 := by
  unfold crcBit
  split
  · exact xor_range _ _
  · omega
theorem crcN_range (n : Nat) (x : Int) (h : 0 ≤ x ∧ x < 4294967296) : 0 ≤ crcN n x ∧ crcN n x < 4294967296 := by
  induction n with
  | zero => exact h
  | succ n ih => exact crcBit_range _ ih
theorem crcF_range (l : List UInt8) : 0 ≤ crcF l ∧ crcF l < 4294967296 := by
  suffices H : ∀ (l : List UInt8) (x : Int), (0 ≤ x ∧ x < 4294967296) → 0 ≤ l.foldl (fun x b => crcN 8 (bits .xor .u32 x (b.toNat : Int))) x ∧ l.foldl (fun x b => crcN 8 (bits .xor .u32 x (b.toNat : Int))) x < 4294967296 from H l _ (by omega)
  intro l
  induction l with
  | nil => exact fun x h => h
  | cons b l ih => exact fun x h => ih _ (crcN_range _ _ (xor_range _ _))
theorem crc_range (l : List UInt8) : 0 ≤ crc l ∧ crc l < 4294967296 := xor_range _ _
theorem crcF_snoc (s : ByteArray) (k : Nat) (h : k < s.size) : crcF (s.data.toList.take (k + 1)) = crcN 8 (bits .xor .u32 (crcF (s.data.toList.take k)) (s[k].toNat : Int)) := by
  rw [List.take_succ_eq_append_getElem (by simpa using h)]
  simp only [crcF, List.foldl_append, List.foldl_cons, List.foldl_nil]
  rfl
theorem ret_int' {k : IntKind} {a b : Int} (h : a = b) : Ending.returned (.int k a) = .returned (.int k b) := by rw [h]

set_option maxHeartbeats 400000 in
theorem fixSum_calls (s : ByteArray) (hs : s.size ≤ 140737488351232) (w : World) : Calls Try.prog 39 #[.string s] w fun e w' => e = .returned (.int .i64 (crc s.data.toList)) ∧ w = w' := by
  go_enter Try.func39, Try.ntmps39
  go_wp2_with fail
  go_loop [3, 8] (fun x i => ∃ k : Nat, k ≤ s.size ∧ i = .int .i64 k ∧ x = .int .u32 (crcF (s.data.toList.take k))) (fun _ i => s.size - (intOf i).toNat)
  case atStart => exact ⟨0, by omega, rfl, rfl⟩
  case round =>
    obtain ⟨k, hk, rfl, rfl⟩ := hrel
    obtain ⟨x, hx⟩ : ∃ x, x = crcF (s.data.toList.take k) := ⟨_, rfl⟩
    have hr := crcF_range (s.data.toList.take k)
    rw [← hx] at hr ⊢
    by_cases hlt : k < s.size
    · have Hs := Lib.hid (crcF_snoc s k hlt)
      rw [← hx] at Hs
      obtain ⟨b, hb⟩ : ∃ b, b = (s[k].toNat : Int) := ⟨_, rfl⟩
      have hb1 : 0 ≤ b ∧ b < 256 := by have := s[k].toNat_lt; omega
      have hb2 : (s[k].toNat : Int) % 4294967296 = b := by omega
      rw [← hb] at Hs
      clear hx hr
      have Hb := Lib.hid hb
      clear hb
      go_wp2_with fail
      have hxr := xor_range x b
      go_loop [3, 17] (fun x' j => ∃ m : Nat, m ≤ 8 ∧ j = .int .i64 m ∧ x' = .int .u32 (crcN m (bits .xor .u32 x b))) (fun _ i => 8 - (intOf i).toNat)
      case atStart => exact ⟨0, by omega, rfl, rfl⟩
      case round =>
        obtain ⟨m, hm, rfl, rfl⟩ := hrel
        have hcr := crcN_range m _ hxr
        have Hd : Hid (crcN (m + 1) (bits .xor .u32 x b) = crcBit (crcN m (bits .xor .u32 x b))) := rfl
        obtain ⟨y, hy⟩ : ∃ y, y = crcN m (bits .xor .u32 x b) := ⟨_, rfl⟩
        rw [← hy] at hcr Hd ⊢
        have Hy := Lib.hid hy
        clear hy
        by_cases hm8 : m < 8
        · go_wp2_with fail
          · go_round
            case rel => exact ⟨m + 1, by omega, by go_num, by rw [Hd.out]; unfold crcBit; rw [if_pos (by assumption)]⟩
            case measure => simp [intOf]; omega
          · go_round
            case rel => exact ⟨m + 1, by omega, by go_num, by rw [Hd.out]; unfold crcBit; rw [if_neg (by simp_all)]⟩
            case measure => simp [intOf]; omega
        · have Hm : Hid (m = 8) := Lib.hid (by omega)
          go_wp2_with fail
          go_round
          case rel => exact ⟨k + 1, by omega, by go_num, by rw [Hs.out, Hy.out, Hm.out]⟩
          case measure => simp [intOf]; omega
    · have Hk : Hid (crc s.data.toList = bits .xor .u32 x 4294967295) := Lib.hid (by
        unfold crc
        rw [hx, List.take_of_length_le (by rw [data_length]; omega)])
      clear hx
      have hxr := xor_range x 4294967295
      go_wp2_with fail
      go_ret
      exact ⟨ret_int' Hk.out.symm, rfl⟩
end Go.Proofs.Ytlkdehflipfpbaa
