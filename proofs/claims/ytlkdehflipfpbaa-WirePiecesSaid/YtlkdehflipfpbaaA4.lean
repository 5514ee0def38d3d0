import Derived.Test.YtlkdehflipfpbaaA3
namespace Go.Proofs.Ytlkdehflipfpbaa
open Go.RowKit Go.Proofs.YtlkdehflipfpbaaW.PrintWords

def flt (c : Int) : Ending := .panicked [{ v := .iface 76 (.int .i64 c), recovered := false }]
theorem want_ok (p : Value) (w : World) : Calls Try.prog 79 #[p, .bool true] w fun e w' => e = .returned (.tuple #[]) ∧ w = w' := by
  go_enter Try.func79, Try.ntmps79
  go_wp2_with fail
  go_end0
  exact ⟨rfl, rfl⟩
theorem want_no (p : Value) (w : World) : Calls Try.prog 79 #[p, .bool false] w fun e w' => e = flt 4 ∧ w = w' := by
  go_enter Try.func79, Try.ntmps79
  go_wp2_with fail
  exact ⟨rfl, rfl, rfl⟩
theorem want_any (p : Value) (t : Bool) (w : World) : Calls Try.prog 79 #[p, .bool t] w fun e w' => (e = if t then .returned (.tuple #[]) else flt 4) ∧ w = w' := by
  cases t
  · exact want_no p w
  · exact want_ok p w

/-- take: 'false': the first byte is too great. -/
def takeBad (s : ByteArray) (n : Int) (most : Int) : Bool := decide (0 < n) && (decide (0 < s.size) && decide (most < bt s 0))
theorem ext_all (s : ByteArray) : s.extract 0 s.size = s := by simp
theorem ext_none (s : ByteArray) : s.extract 0 0 = ByteArray.empty := by simp
theorem toList_ne (s : ByteArray) (h : 0 < s.size) : (s.toList.isEmpty) = false := by
  rw [ByteArray.toList_eq]
  cases e : s.data.toList with
  | nil => have := data_length s; rw [e] at this; simp at this; omega
  | cons b l => rfl
theorem toList_nil (s : ByteArray) (h : s.size = 0) : (s.toList.isEmpty) = true := by
  rw [ByteArray.toList_eq]
  cases e : s.data.toList with
  | nil => rfl
  | cons b l => have := data_length s; rw [e] at this; simp at this; omega
set_option maxRecDepth 100000 in
theorem take_bad (a : Addr) (s : ByteArray) (n most : Int) (h : takeBad s n most = true) (w : World) (hc : w.cell? a = some (.string s)) :
    Calls Try.prog 80 #[.pointer (some a), .int .i64 n, .int .u8 most] w fun e w' => e = flt 4 ∧ w = w' := by
  simp only [takeBad, Bool.and_eq_true, decide_eq_true_eq] at h
  obtain ⟨h1, h2, h3⟩ := h
  have hne := toList_ne s h2
  have Hb : Hid (decide ((s[0].toNat : Int) ≤ most) = false) := Lib.hid (by rw [show (s[0].toNat : Int) = bt s 0 from bt_at s 0 h2]; exact decide_eq_false (by omega))
  clear h3
  go_enter Try.func80, Try.ntmps80
  go_wp2_with fail
  rw [Hb.out]
  refine (want_no _ _).mono ?_
  rintro e w' ⟨he, rfl⟩
  unfold flt at he
  subst he
  go_wp2_with fail
  exact ⟨rfl, rfl, rfl⟩
set_option maxRecDepth 100000 in
theorem take_short (a : Addr) (s : ByteArray) (n most : Int) (h : takeBad s n most = false) (hn : (s.size : Int) < n)  (w : World) (hc : w.cell? a = some (.string s)) :
    Calls Try.prog 80 #[.pointer (some a), .int .i64 n, .int .u8 most] w fun e w' => e = flt 5 ∧ w = w' := by
  have h1 : 0 < n := by omega
  by_cases h2 : 0 < s.size
  · have hne := toList_ne s h2
    have Hb : Hid (decide ((s[0].toNat : Int) ≤ most) = true) := Lib.hid (by
      rw [show (s[0].toNat : Int) = bt s 0 from bt_at s 0 h2]
      simp [takeBad, h1, h2] at h
      exact decide_eq_true h)
    clear h
    go_enter Try.func80, Try.ntmps80
    go_wp2_with fail
    rw [Hb.out]
    refine (want_ok _ _).mono ?_
    rintro e w' ⟨rfl, rfl⟩
    go_wp2_with fail
    exact ⟨rfl, rfl, rfl⟩
  · have hne := toList_nil s (by omega)
    clear h
    go_enter Try.func80, Try.ntmps80
    go_wp2_with fail
    exact ⟨rfl, rfl, rfl⟩
set_option maxRecDepth 100000 in
theorem take_ok (a : Addr) (s : ByteArray) (n : Nat) (most : Int) (h : takeBad s n most = false) (hn : n ≤ s.size) (hs : s.size ≤ 9223372036854775807) (w : World) (hc : w.cell? a = some (.string s)) (hz : w.frozen? a = false) :
    Calls Try.prog 80 #[.pointer (some a), .int .i64 n, .int .u8 most] w fun e w' => e = .returned (.string (s.extract 0 n)) ∧ w.setCell a (.string (s.extract n s.size)) = w' := by
  by_cases h1 : 0 < n
  · have h2 : 0 < s.size := by omega
    have hne := toList_ne s h2
    have Hb : Hid (decide ((s[0].toNat : Int) ≤ most) = true) := Lib.hid (by
      rw [show (s[0].toNat : Int) = bt s 0 from bt_at s 0 h2]
      simp [takeBad, h1, h2] at h
      exact decide_eq_true h)
    clear h
    go_enter Try.func80, Try.ntmps80
    go_wp2_with fail
    rw [Hb.out]
    refine (want_ok _ _).mono ?_
    rintro e w' ⟨rfl, rfl⟩
    go_wp2_with fail
    go_ret
    exact ⟨rfl, rfl⟩
  · obtain rfl : n = 0 := by omega
    clear h
    go_enter Try.func80, Try.ntmps80
    go_wp2_with fail
    go_ret
    exact ⟨by rw [ext_none]; rfl, by rw [ext_all]⟩
end Go.Proofs.Ytlkdehflipfpbaa
