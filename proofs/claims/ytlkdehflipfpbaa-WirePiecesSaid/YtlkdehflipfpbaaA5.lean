import Derived.Test.YtlkdehflipfpbaaA4
import Derived.Test.YtlkdehflipfpbaaShelf
namespace Go.Proofs.Ytlkdehflipfpbaa
open Go.RowKit Go.Proofs.YtlkdehflipfpbaaW.PrintWords

theorem clone_calls (s : ByteArray) (hs : s.size ≤ 281474976710656) (w : World) : Calls Try.prog 82 #[.string s] w fun e w' => e = .returned (.string s) ∧ Below w.heap.size w w' := by
  go_enter Try.func82, Try.ntmps82
  go_wp2_with (go_at_call 107; refine (Try.stringslite_Clone s _ hs).mono ?_; rintro e w' ⟨rfl, hb⟩)
  go_ret
  exact ⟨rfl, hb⟩

theorem hasPrefix_calls (s p : ByteArray) (w : World) : Calls Try.prog 83 #[.string s, .string p] w fun e w' => e = .returned (.bool (Lib.hasPrefix s.data.toList p.data.toList)) ∧ w = w' :=
  (Try.strings_HasPrefix s p w).mono fun _ _ h => ⟨h.1, h.2.symm⟩
theorem own_snoc {W : World} {base : Nat} {e : TypeId} {k : IntKind} {v : Value} {xs : List Int} {y : Int} (h : W.ownsRow base e 1 v (xs.length + 1) (nums k xs ++ [.int k y])) : W.ownsRow base e 1 v (xs ++ [y]).length (nums k (xs ++ [y])) := by simpa [nums] using h
theorem take_eq_step (xs ys : List Int) (k : Nat) (h1 : k < xs.length) (h2 : k < ys.length) (h : xs.take k = ys.take k) (e : xs.getD k 0 = ys.getD k 0) : xs.take (k + 1) = ys.take (k + 1) := by
  rw [List.take_succ_eq_append_getElem h1, List.take_succ_eq_append_getElem h2, h]
  simp [List.getD_eq_getElem?_getD, List.getElem?_eq_getElem h1, List.getElem?_eq_getElem h2] at e
  rw [e]
set_option maxRecDepth 100000 in
set_option maxHeartbeats 400000 in
theorem equal_calls (A B : Option Addr) (n m c d : Nat) (xs ys : List Int) (w : World) (hx : ReadsInt w .i64 A n xs) (hy : ReadsInt w .i64 B m ys) :
    Calls Try.prog 42 #[.slice A n c, .slice B m d] w fun e w' => e = .returned (.bool (decide (xs = ys))) ∧ Drawn0 w w' := by
  by_cases hnm : n = m
  · subst hnm
    have hn := hx.2.1
    go_enter Try.func42, Try.ntmps42
    go_wp2_with fail
    go_loopw [13] (fun i W => ∃ k : Nat, k ≤ n ∧ i = .int .i64 k ∧ xs.take k = ys.take k ∧ Drawn0 w W) (fun i _ => n - (intOf i).toNat)
    case atStart => exact ⟨0, by omega, rfl, rfl, Drawn0.refl w⟩
    case round =>
      obtain ⟨k, hk, rfl, hkk, hd⟩ := hrel
      have Hkk := Lib.hid hkk
      clear hkk
      by_cases hlt : k < n
      · obtain ⟨ax, hax, hcx⟩ := hx.2.2 (by omega)
        obtain ⟨ay, hay, hcy⟩ := hy.2.2 (by omega)
        subst hax hay
        have hcx' : wr.cell? (ax.add k) = some (.int .i64 (xs.getD k 0)) := by obtain ⟨⟨q, rfl⟩⟩ := hd; exact hcx k hlt
        have hcy' : wr.cell? (ay.add k) = some (.int .i64 (ys.getD k 0)) := by obtain ⟨⟨q, rfl⟩⟩ := hd; exact hcy k hlt
        have Hd := Lib.hid hd
        have Hst := Lib.hid (take_eq_step xs ys k (by rw [hx.1]; exact hlt) (by rw [hy.1]; exact hlt) Hkk.out)
        have Hne : Hid (xs.getD k 0 ≠ ys.getD k 0 → xs ≠ ys) := Lib.hid (fun h e => h (by rw [e]))
        obtain ⟨x, hx'⟩ : ∃ x, x = xs.getD k 0 := ⟨_, rfl⟩
        obtain ⟨y, hy'⟩ : ∃ y, y = ys.getD k 0 := ⟨_, rfl⟩
        rw [← hx'] at hcx' Hst Hne
        rw [← hy'] at hcy' Hst Hne
        clear hx' hy' hd hcx hcy hx hy
        go_wp2_with fail
        go_quiet (fail)
        by_cases e : x = y
        · have e' : (x != y) = false := bne_eq_false_iff_eq.2 e
          have E := Lib.hid e
          clear e
          go_wp2_with fail
          go_roundw
          case rel => exact ⟨k + 1, by omega, by go_num, Hst.out E.out, Hd.out.step _⟩
          case measure => simp [intOf]; omega
        · have e' : (x != y) = true := bne_iff_ne.2 e
          have E := Lib.hid (Hne.out e)
          clear e
          go_wp2_with fail
          go_ret
          exact ⟨by rw [decide_eq_false E.out]; rfl, Hd.out.step _⟩
      · have E : Hid (xs = ys) := Lib.hid (by
          have := Hkk.out
          rwa [List.take_of_length_le (by rw [hx.1]; omega), List.take_of_length_le (by rw [hy.1]; omega)] at this)
        have Hd := Lib.hid hd
        clear hd
        go_wp2_with fail
        go_ret
        exact ⟨by rw [decide_eq_true E.out]; rfl, Hd.out⟩
  · have E : Hid (xs ≠ ys) := Lib.hid (fun e => hnm (by rw [← hx.1, ← hy.1, e]))
    have hn' : ((n : Int) != (m : Int)) = true := bne_iff_ne.2 (by omega)
    clear hnm
    go_enter Try.func42, Try.ntmps42
    go_wp2_with fail
    go_ret
    exact ⟨by rw [decide_eq_false E.out]; rfl, Drawn0.refl w⟩

/-- Two frames' heads and data as one test. -/
theorem same_calls (k1 f1 t1 k2 f2 t2 : Int) (A B : Option Addr) (n m c d : Nat) (xs ys : List Int) (s1 s2 : ByteArray) (w : World) (hx : ReadsInt w .i64 A n xs) (hy : ReadsInt w .i64 B m ys) :
    Calls Try.prog 11 #[.agg #[.int .i64 k1, .int .i64 f1, .int .i64 t1, .slice A n c, .string s1], .agg #[.int .i64 k2, .int .i64 f2, .int .i64 t2, .slice B m d, .string s2]] w
      fun e w' => e = .returned (.bool (decide (k1 = k2 ∧ f1 = f2 ∧ t1 = t2 ∧ xs = ys ∧ s1 = s2))) ∧ Below w.heap.size w w' := by
  have hb0 : ∀ x y : Array Value, Below w.heap.size w ((w.alloc (.cells x 26)).alloc (.cells y 26)) := fun x y => ((Below.refl _ w).alloc (Nat.le_refl _) _).alloc (by simp) _
  have Hb0 := Lib.hid hb0
  clear hb0
  by_cases H : k1 = k2 ∧ f1 = f2 ∧ t1 = t2
  · obtain ⟨rfl, rfl, rfl⟩ := H
    by_cases e : xs = ys
    · have E := Lib.hid e
      clear e
      go_enter Try.func11, Try.ntmps11
      go_wp2_with fail
      refine (equal_calls A B n m c d xs ys _ (hx.below (below_alloc (below_alloc (Below.refl _ w) _) _)) (hy.below (below_alloc (below_alloc (Below.refl _ w) _) _))).mono ?_
      rintro e w' ⟨rfl, ⟨q, rfl⟩⟩
      rw [decide_eq_true E.out]
      go_wp2_with fail
      go_ret
      refine ⟨?_, pw_below_drewN (Hb0.out _ _) _⟩
      · show Ending.returned (Value.bool (s1.toList == s2.toList)) = _
        congr 2
        rw [Bool.eq_iff_iff]
        simp [E.out, ByteArray.toList_eq]
        exact ⟨fun h => ByteArray.ext (by simpa using h), fun h => by rw [h]⟩
    · have E := Lib.hid e
      clear e
      go_enter Try.func11, Try.ntmps11
      go_wp2_with fail
      refine (equal_calls A B n m c d xs ys _ (hx.below (below_alloc (below_alloc (Below.refl _ w) _) _)) (hy.below (below_alloc (below_alloc (Below.refl _ w) _) _))).mono ?_
      rintro e w' ⟨rfl, ⟨q, rfl⟩⟩
      rw [decide_eq_false E.out]
      go_wp2_with fail
      go_ret
      exact ⟨by rw [decide_eq_false (fun h => E.out h.2.2.2.1)]; rfl, pw_below_drewN (Hb0.out _ _) _⟩
  · have Hn : Hid (¬ (k1 = k2 ∧ f1 = f2 ∧ t1 = t2 ∧ xs = ys ∧ s1 = s2)) := Lib.hid (fun h => H ⟨h.1, h.2.1, h.2.2.1⟩)
    have H' := Lib.hid H
    clear H
    go_enter Try.func11, Try.ntmps11
    go_wp2_with fail
    · exact absurd ⟨by assumption, by assumption, by assumption⟩ H'.out
    all_goals
      go_ret
      exact ⟨by rw [decide_eq_false Hn.out]; rfl, Hb0.out _ _⟩
end Go.Proofs.Ytlkdehflipfpbaa
