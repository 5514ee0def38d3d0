import Derived.Test.YtlkdehflipfpbaaA5
namespace Go.Proofs.Ytlkdehflipfpbaa
open Go.RowKit Go.Proofs.YtlkdehflipfpbaaW.PrintWords

/-! ### reading a frame -/
structure Fr where
  kind : Int
  src : Int
  tick : Int
  nums : List Int
  data : ByteArray
def takeB (s : ByteArray) (n : Nat) (most : Int) : Except Int (ByteArray × ByteArray) :=
  if takeBad s n most = true then .error 4 else if s.size < n then .error 5 else .ok (s.extract 0 n, s.extract n s.size)
def numsB : Nat → ByteArray → List Int → Except Int (List Int × ByteArray)
  | 0, s, acc => .ok (acc, s)
  | k + 1, s, acc => match takeB s 8 255 with
    | .error c => .error c
    | .ok (x, r) => numsB k r (acc ++ [getBe x.data.toList])
/-- Behind the numbers. -/
def readT (b : ByteArray) (k f t : Int) (xs : List Int) (s6 : ByteArray) : Except Int (Fr × Int) :=
  match takeB s6 2 234 with
  | .error c => .error c
  | .ok (x5, s7) =>
    if (bt x5 0 * 256 + bt x5 1 ≤ 60000) then
      match takeB s7 (bt x5 0 * 256 + bt x5 1).toNat 255 with
      | .error c => .error c
      | .ok (x6, s8) =>
        if Lib.hasPrefix ((strOfNums (beI (crc (b.extract 0 (b.size - s8.size)).data.toList) 5)).data.toList) ((s8.extract 0 (min s8.size 5)).data.toList) = true then
          match takeB s8 5 255 with
          | .error c => .error c
          | .ok _ => .ok (⟨k, f, t, xs, x6⟩, ((b.size - s8.size : Nat) : Int) + 5)
        else .error 4
    else .error 4
def readB (b : ByteArray) : Except Int (Fr × Int) :=
  match takeB b 1 255 with
  | .error c => .error c
  | .ok (x0, s1) => if bt x0 0 = 165 then
    match takeB s1 1 9 with
    | .error c => .error c
    | .ok (x1, s2) => match takeB s2 1 255 with
      | .error c => .error c
      | .ok (x2, s3) => match takeB s3 6 127 with
        | .error c => .error c
        | .ok (x3, s4) => match takeB s4 1 100 with
          | .error c => .error c
          | .ok (x4, s5) => match numsB (bt x4 0).toNat s5 [] with
            | .error c => .error c
            | .ok (xs, s6) => readT b (bt x1 0) (bt x2 0) (getBe x3.data.toList) xs s6
    else .error 4

theorem takeB_ok {s : ByteArray} {n : Nat} {most : Int} {x r : ByteArray} (h : takeB s n most = .ok (x, r)) : takeBad s n most = false ∧ n ≤ s.size ∧ x = s.extract 0 n ∧ r = s.extract n s.size ∧ x.size = n ∧ r.size + n = s.size := by
  unfold takeB at h
  split at h
  · cases h
  · split at h
    · cases h
    · rename_i h1 h2
      injection h with h
      injection h with h3 h4
      subst h3 h4
      refine ⟨by simpa using h1, by omega, rfl, rfl, by simp; omega, by simp; omega⟩
def TakePost (a : Addr) (w : World) : Except Int (ByteArray × ByteArray) → Ending → World → Prop
  | .error c, e, w' => e = flt c ∧ w = w'
  | .ok (x, r), e, w' => e = .returned (.string x) ∧ w.setCell a (.string r) = w'
theorem take_any (a : Addr) (s : ByteArray) (n : Nat) (most : Int) (hs : s.size ≤ 9223372036854775807) (w : World) (hc : w.cell? a = some (.string s)) (hz : w.frozen? a = false) :
    Calls Try.prog 80 #[.pointer (some a), .int .i64 n, .int .u8 most] w (TakePost a w (takeB s n most)) := by
  unfold takeB
  by_cases h : takeBad s n most = true
  · rw [if_pos h]
    exact take_bad a s n most h w hc
  · rw [if_neg h]
    have h' : takeBad s n most = false := by simpa using h
    by_cases hn : s.size < n
    · rw [if_pos hn]
      exact take_short a s n most h' (by omega) w hc
    · rw [if_neg hn]
      exact take_ok a s n most h' (by omega) hs w hc hz

def ReadPost (w : World) : Except Int (Fr × Int) → Ending → World → Prop
  | .error c, e, w' => e = flt c ∧ Below w.heap.size w w'
  | .ok (f, n), e, w' => ∃ v, e = .returned (.tuple #[.agg #[.int .i64 f.kind, .int .i64 f.src, .int .i64 f.tick, v, .string f.data], .int .i64 n]) ∧
      w'.ownsRow w.heap.size 3 1 v f.nums.length (nums .i64 f.nums) ∧ Below w.heap.size w w'

theorem bw3 (w : World) (x y z : Array Value) (a b c : TypeId) : Below w.heap.size w (((w.alloc (.cells x a)).alloc (.cells y b)).alloc (.cells z c)) :=
  (((Below.refl _ w).alloc (Nat.le_refl _) _).alloc (by simp) _).alloc (by simp; omega) _

-- WALK OF read
theorem infoInt : (Try.prog.info? 3).map (fun i => (i.zero, i.size, i.bytes)) = some (some (.int .i64 0), 1, 8) := by kernel_rfl
theorem heap3 (w : World) (x y z : Array Value) (a b c : TypeId) :
    (((w.alloc (.cells x a)).alloc (.cells y b)).alloc (.cells z c)).heap[w.heap.size]? = some (.cells x a (0, 0)) ∧
    (((w.alloc (.cells x a)).alloc (.cells y b)).alloc (.cells z c)).heap[w.heap.size + 1]? = some (.cells y b (0, 0)) ∧
    (((w.alloc (.cells x a)).alloc (.cells y b)).alloc (.cells z c)).heap[w.heap.size + 1 + 1]? = some (.cells z c (0, 0)) := by
  refine ⟨?_, ?_, ?_⟩
  · show (((w.heap.push _).push _).push _)[w.heap.size]? = _
    simp only [Array.getElem?_push, Array.size_push]
    rw [if_neg (by omega), if_neg (by omega), if_pos trivial]
  · show (((w.heap.push _).push _).push _)[w.heap.size + 1]? = _
    simp only [Array.getElem?_push, Array.size_push]
    rw [if_neg (by omega), if_pos trivial]
  · show (((w.heap.push _).push _).push _)[w.heap.size + 1 + 1]? = _
    simp only [Array.getElem?_push, Array.size_push]
    rw [if_pos trivial]
set_option maxRecDepth 100000 in
set_option maxHeartbeats 1000000 in
theorem read_calls (b : ByteArray) (hb : b.size ≤ 140737488351232) (res : Except Int (Fr × Int)) (H : readB b = res) (w : World) : Calls Try.prog 41 #[.string b] w (ReadPost w res) := by
  unfold readB at H
  have HB := Lib.hid (bw3 w)
  have H3 := Lib.hid (heap3 w)
  have HH := Lib.hid H
  clear H
  go_enter Try.func41, Try.ntmps41
  go_wp2_with fail
  have H := HH.out
  clear HH
  rcases hT : takeB b 1 255 with c | ⟨x0, s1⟩
  · rw [hT] at H
    dsimp only at H
    subst H
    have HT := Lib.hid hT
    clear hT
    refine (take_any _ b 1 255 (by omega) _ (by go_simp) (by go_simp)).mono ?_
    rw [HT.out]
    rintro e w' ⟨he, rfl⟩
    unfold flt at he
    subst he
    go_wp2_with fail
    exact ⟨rfl, rfl, HB.out _ _ _ _ _ _⟩
  rw [hT] at H
  dsimp only at H
  obtain ⟨-, -, -, -, hx0, hs1⟩ := takeB_ok hT
  have HT := Lib.hid hT
  clear hT
  obtain ⟨b0, hb0⟩ : ∃ b0, b0 = bt x0 0 := ⟨_, rfl⟩
  have r0 := bt_range x0 0
  have q0 : (x0[0].toNat : Int) = b0 := (bt_at x0 0 (by simp [hx0])).trans hb0.symm
  rw [← hb0] at H r0
  clear hb0
  have HH := Lib.hid H
  clear H
  refine (take_any _ b 1 255 (by omega) _ (by go_simp) (by go_simp)).mono ?_
  rw [HT.out]
  rintro e w' ⟨rfl, rfl⟩
  go_wp2_with fail
  have H := HH.out
  clear HH HT
  by_cases h165 : b0 = 165
  rotate_left
  · rw [if_neg h165] at H
    subst H
    have e165 : (b0 == 165) = false := beq_eq_false_iff_ne.2 h165
    clear h165
    rw [e165]
    refine (want_no _ _).mono ?_
    rintro e w' ⟨he, rfl⟩
    unfold flt at he
    subst he
    go_wp2_with fail
    exact ⟨rfl, rfl, HB.out _ _ _ _ _ _⟩
  rw [if_pos h165] at H
  have e165 : (b0 == 165) = true := beq_iff_eq.2 h165
  clear h165
  rw [e165]
  have HH := Lib.hid H
  clear H
  refine (want_ok _ _).mono ?_
  rintro e w' ⟨rfl, rfl⟩
  go_wp2_with fail
  have H := HH.out
  clear HH
  rcases hT : takeB s1 1 9 with c | ⟨x1, s2⟩
  · rw [hT] at H
    dsimp only at H
    subst H
    have HT := Lib.hid hT
    clear hT
    refine (take_any _ s1 1 9 (by omega) _ (by go_simp) (by go_simp)).mono ?_
    rw [HT.out]
    rintro e w' ⟨he, rfl⟩
    unfold flt at he
    subst he
    go_wp2_with fail
    exact ⟨rfl, rfl, HB.out _ _ _ _ _ _⟩
  rw [hT] at H
  dsimp only at H
  obtain ⟨-, -, -, -, hx1, hs2⟩ := takeB_ok hT
  have HT := Lib.hid hT
  clear hT
  obtain ⟨b1, hb1⟩ : ∃ b1, b1 = bt x1 0 := ⟨_, rfl⟩
  have r1 := bt_range x1 0
  have q1 : (x1[0].toNat : Int) = b1 := (bt_at x1 0 (by simp [hx1])).trans hb1.symm
  rw [← hb1] at H r1
  clear hb1
  have HH := Lib.hid H
  clear H
  refine (take_any _ s1 1 9 (by omega) _ (by go_simp) (by go_simp)).mono ?_
  rw [HT.out]
  rintro e w' ⟨rfl, rfl⟩
  go_wp2_with fail
  have H := HH.out
  clear HH HT
  rcases hT : takeB s2 1 255 with c | ⟨x2, s3⟩
  · rw [hT] at H
    dsimp only at H
    subst H
    have HT := Lib.hid hT
    clear hT
    refine (take_any _ s2 1 255 (by omega) _ (by go_simp) (by go_simp)).mono ?_
    rw [HT.out]
    rintro e w' ⟨he, rfl⟩
    unfold flt at he
    subst he
    go_wp2_with fail
    exact ⟨rfl, rfl, HB.out _ _ _ _ _ _⟩
  rw [hT] at H
  dsimp only at H
  obtain ⟨-, -, -, -, hx2, hs3⟩ := takeB_ok hT
  have HT := Lib.hid hT
  clear hT
  obtain ⟨b2, hb2⟩ : ∃ b2, b2 = bt x2 0 := ⟨_, rfl⟩
  have r2 := bt_range x2 0
  have q2 : (x2[0].toNat : Int) = b2 := (bt_at x2 0 (by simp [hx2])).trans hb2.symm
  rw [← hb2] at H r2
  clear hb2
  have HH := Lib.hid H
  clear H
  refine (take_any _ s2 1 255 (by omega) _ (by go_simp) (by go_simp)).mono ?_
  rw [HT.out]
  rintro e w' ⟨rfl, rfl⟩
  go_wp2_with fail
  have H := HH.out
  clear HH HT
  rcases hT : takeB s3 6 127 with c | ⟨x3, s4⟩
  · rw [hT] at H
    dsimp only at H
    subst H
    have HT := Lib.hid hT
    clear hT
    refine (take_any _ s3 6 127 (by omega) _ (by go_simp) (by go_simp)).mono ?_
    rw [HT.out]
    rintro e w' ⟨he, rfl⟩
    unfold flt at he
    subst he
    go_wp2_with fail
    exact ⟨rfl, rfl, HB.out _ _ _ _ _ _⟩
  rw [hT] at H
  dsimp only at H
  obtain ⟨-, -, -, -, hx3, hs4⟩ := takeB_ok hT
  have HT := Lib.hid hT
  clear hT
  have HH := Lib.hid H
  clear H
  refine (take_any _ s3 6 127 (by omega) _ (by go_simp) (by go_simp)).mono ?_
  rw [HT.out]
  rintro e w' ⟨rfl, rfl⟩
  go_wp2_with fail
  have H := HH.out
  clear HH HT
  refine (num_calls x3 (by omega) (by omega) _).mono ?_
  rintro e w' ⟨rfl, rfl⟩
  obtain ⟨b3, hb3⟩ : ∃ b3, b3 = getBe x3.data.toList := ⟨_, rfl⟩
  rw [← hb3] at H ⊢
  clear hb3
  have HH := Lib.hid H
  clear H
  go_wp2_with fail
  have H := HH.out
  clear HH
  rcases hT : takeB s4 1 100 with c | ⟨x4, s5⟩
  · rw [hT] at H
    dsimp only at H
    subst H
    have HT := Lib.hid hT
    clear hT
    refine (take_any _ s4 1 100 (by omega) _ (by go_simp) (by go_simp)).mono ?_
    rw [HT.out]
    rintro e w' ⟨he, rfl⟩
    unfold flt at he
    subst he
    go_wp2_with fail
    exact ⟨rfl, rfl, HB.out _ _ _ _ _ _⟩
  rw [hT] at H
  dsimp only at H
  obtain ⟨-, -, -, -, hx4, hs5⟩ := takeB_ok hT
  have HT := Lib.hid hT
  clear hT
  obtain ⟨b4, hb4⟩ : ∃ b4, b4 = bt x4 0 := ⟨_, rfl⟩
  have r4 := bt_range x4 0
  have q4 : (x4[0].toNat : Int) = b4 := (bt_at x4 0 (by simp [hx4])).trans hb4.symm
  rw [← hb4] at H r4
  clear hb4
  have HH := Lib.hid H
  clear H
  refine (take_any _ s4 1 100 (by omega) _ (by go_simp) (by go_simp)).mono ?_
  rw [HT.out]
  rintro e w' ⟨rfl, rfl⟩
  go_wp2_with fail
  have H := HH.out
  clear HH HT
  have HH := Lib.hid H
  clear H
  go_loopw [41] (fun i W => ∃ (k : Nat) (s : ByteArray) (xs : List Int) (v : Value), (k : Int) ≤ b4 ∧ i = .int .i64 k ∧ Hid (numsB (b4 - k).toNat s xs = numsB b4.toNat s5 []) ∧ xs.length = k ∧ s.size ≤ b.size ∧
      W.heap[w.heap.size + 1]? = some (.cells #[.string s] 112 (0, 0)) ∧ W.heap[w.heap.size + 1 + 1]? = some (.cells #[.int .i64 b1, .int .i64 b2, .int .i64 b3, v, .string ⟨#[]⟩] 26 (0, 0)) ∧
      W.heap[w.heap.size]? = some (.cells #[.int .i64 0, .int .i64 0, .int .i64 0, .slice none 0 0, .string ⟨#[]⟩] 26 (0, 0)) ∧
      W.ownsRow w.heap.size 3 1 v xs.length (nums .i64 xs) ∧ Below w.heap.size w W) (fun i _ => (b4 - intOf i).toNat)
  case atStart => exact ⟨0, s5, [], .slice none 0 0, by omega, rfl, Lib.hid (by simp), rfl, by omega, (H3.out _ _ _ _ _ _).2.1, (H3.out _ _ _ _ _ _).2.2, (H3.out _ _ _ _ _ _).1, own_nil _ _ _ _, HB.out _ _ _ _ _ _⟩
  case round =>
    obtain ⟨k, s, xs, v, hk, rfl, HN, hl, hs, hg1, hg2, hg0, ho, hbl⟩ := hrel
    by_cases hlt : (k : Int) < b4
    · subst hl
      have c1 : wr.cell? ⟨w.heap.size + 1, 0, none⟩ = some (.string s) := cell_of_row wr (w.heap.size + 1) 0 _ _ _ hg1
      have z1 : wr.frozen? ⟨w.heap.size + 1, 0, none⟩ = false := blk_frozen hg1 0
      have c2 : wr.cell? ⟨w.heap.size + 1 + 1, 3, none⟩ = some v := cell_of_row wr (w.heap.size + 1 + 1) 3 _ _ _ hg2
      obtain ⟨m, hm⟩ : ∃ m : Nat, (b4 - xs.length).toNat = m + 1 := ⟨(b4 - xs.length).toNat - 1, by omega⟩
      rw [hm] at HN
      have HN := HN.out
      simp only [numsB] at HN
      rcases hT : takeB s 8 255 with c | ⟨x, r⟩
      · rw [hT] at HN
        dsimp only at HN
        have H := HH.out
        rw [← HN] at H
        dsimp only at H
        subst H
        have HT := Lib.hid hT
        clear hT HN hm
        go_wp2_with fail
        refine wp_region_any (by kernel_rfl) ?_
        change wpAny _ _ _ _ _ _ _ (World.drew _)
        refine wpAny_take (i := 0) (v := ?_) rfl (by kernel_rfl) (by kernel_rfl) (by kernel_rfl) (fun _ _ _ h => h) (Or.inl ⟨by rfl, ?_⟩) ?_
        rotate_left
        · (intro w; go_simp; with_reducible rfl)
        refine wpAny_take (i := 2) (v := ?_) rfl (by kernel_rfl) (by kernel_rfl) (by kernel_rfl) (fun _ _ _ h => h) (Or.inl ⟨by rfl, ?_⟩) ?_
        rotate_left
        · (intro w; go_simp; with_reducible rfl)
        have hbd : Below w.heap.size w wr.drew := below_drew hbl
        refine wpAny_ready (rs := [1, 3]) (by kernel_rfl) (by simp) ?_
        refine AllReady.cons rfl (fun K hK => ?_) ?_
        · go_simp
          refine hK _ _ ?_
          clear hK K
          refine wpAny_ready (rs := [3]) (by kernel_rfl) (by simp) ?_
          refine AllReady.cons rfl (fun K hK => ?_) AllReady.nil
          go_simp
          go_wp2_with (go_at_call 80; refine (take_any ⟨w.heap.size + 1, 0, none⟩ s 8 255 (by omega) _ ?_ ?_).mono ?_; (simp [*]); (simp [*]); rw [HT.out]; rintro e w' ⟨he, rfl⟩; unfold flt at he; subst he)
          exact ⟨rfl, rfl, hbd⟩
        refine AllReady.cons rfl (fun K hK => ?_) AllReady.nil
        go_simp
        go_wp2_with (go_at_call 80; refine (take_any ⟨w.heap.size + 1, 0, none⟩ s 8 255 (by omega) _ ?_ ?_).mono ?_; (simp [*]); (simp [*]); rw [HT.out]; rintro e w' ⟨he, rfl⟩; unfold flt at he; subst he)
        exact ⟨rfl, rfl, hbd⟩
      · rw [hT] at HN
        dsimp only at HN
        obtain ⟨-, -, -, -, hx, hsr⟩ := takeB_ok hT
        have HT := Lib.hid hT
        have HN := Lib.hid HN
        have HM := Lib.hid hm
        clear hT hm
        obtain ⟨y, hy⟩ : ∃ y, y = getBe x.data.toList := ⟨_, rfl⟩
        rw [← hy] at HN
        have HY := Lib.hid hy
        clear hy
        have HO' := own_drew (own_setCell ho (p := ⟨w.heap.size + 1, 0, none⟩) (own_ne ho hg1 (by decide)) (.string r))
        have HB' : Below w.heap.size w (wr.setCell ⟨w.heap.size + 1, 0, none⟩ (.string r)).drew := below_drew (hbl.setCell (by simp) _)
        have hsz := hbl.size
        have SZ : Hid ((wr.setCell ⟨w.heap.size + 1, 0, none⟩ (.string r)).drew.heap.size = wr.heap.size) := Lib.hid (by simp)
        have C2b : (wr.setCell ⟨w.heap.size + 1, 0, none⟩ (.string r)).drew.heap[w.heap.size + 1 + 1]? = some (.cells #[.int .i64 b1, .int .i64 b2, .int .i64 b3, v, .string ⟨#[]⟩] 26 (0, 0)) := blk_far hg2 (by simp) _
        have NE2 := own_ne ho hg2 (by decide)
        have NE1 := own_ne ho hg1 (by decide)
        have NE0 := own_ne ho hg0 (by decide)
        have C1b : (wr.setCell ⟨w.heap.size + 1, 0, none⟩ (.string r)).drew.heap[w.heap.size + 1]? = some (.cells #[.string r] 112 (0, 0)) := blk_put (cs := #[.string s]) hg1 0 _ rfl
        have C0b : (wr.setCell ⟨w.heap.size + 1, 0, none⟩ (.string r)).drew.heap[w.heap.size]? = some (.cells #[.int .i64 0, .int .i64 0, .int .i64 0, .slice none 0 0, .string ⟨#[]⟩] 26 (0, 0)) := blk_far hg0 (by simp) _
        have hlt2 := blk_lt hg2
        go_wp2_with fail
        go_region_law (first | (refine step_append_cells (w0 := w) w.heap.size (by rfl) (.tmp 44) (.tmp 48) 24 3 (.int .i64 0) 1 8 (by rfl) Try.underlying24 infoInt (by rfl) (by decide) (by decide) v xs.length (nums .i64 xs) [.int .i64 y] (by rfl) (by show _ = Value.slice (some ⟨(wr.setCell ⟨w.heap.size + 1, 0, none⟩ (.string r)).drew.heap.size, 0, none⟩) 1 1; rw [SZ.out]; rfl) rfl ?_ HO' HB' ?_ ?_ ?_; (simp [Value.oneCell']); (simp; omega); (omega); intro v1 w1 hown1 hb1 hgr1 hat1; obtain ⟨A1, cp1, hv1⟩ := own_slice hown1; subst hv1; have hk1 := blk_grown C1b hgr1 NE1; have hk0 := blk_grown C0b hgr1 NE0; have hk2 := blk_grown C2b hgr1 NE2; have hfr2 := blk_frozen hk2 3; have hce2 : w1.cell? ⟨w.heap.size + 1 + 1, 3, none⟩ = some v := blk_cell hk2 3) | (go_simp; go_at_call 80; refine (take_any ⟨w.heap.size + 1, 0, none⟩ s 8 255 (by omega) _ ?_ ?_).mono ?_; (simp [*]); (simp [*]); rw [HT.out]; rintro e w' ⟨rfl, rfl⟩) | (go_simp; go_at_call 81; refine (num_calls x (by omega) (by omega) _).mono ?_; rw [← HY.out]; rintro e w' ⟨rfl, rfl⟩))
        all_goals
          go_wp2_with fail
          go_roundw
          case rel => exact ⟨xs.length + 1, r, xs ++ [y], .slice A1 (xs.length + 1) cp1, by omega, by go_num, Lib.hid (by rw [show (b4 - ((xs.length + 1 : Nat) : Int)).toNat = m from by have := HM.out; omega]; exact HN.out), by simp, by omega, blk_far hk1 (by simp) _, blk_put (cs := #[.int .i64 b1, .int .i64 b2, .int .i64 b3, v, .string ⟨#[]⟩]) hk2 3 _ rfl, blk_far hk0 (by simp; omega) _, own_snoc (own_setCell (p := ⟨w.heap.size + 1 + 1, 3, none⟩) hown1 (own_ne hown1 hk2 (by decide)) _), hb1.setCell (by simp; omega) _⟩
          case measure => simp [intOf]; omega
    · have HN := HN.out
      rw [show (b4 - (k : Int)).toNat = 0 from by omega] at HN
      simp only [numsB] at HN
      have H := HH.out
      rw [← HN] at H
      dsimp only at H
      clear HN HH
      unfold readT at H
      have c1 : wr.cell? ⟨w.heap.size + 1, 0, none⟩ = some (.string s) := cell_of_row wr (w.heap.size + 1) 0 _ _ _ hg1
      have z1 : wr.frozen? ⟨w.heap.size + 1, 0, none⟩ = false := blk_frozen hg1 0
      have HH := Lib.hid H
      clear H
      go_wp2_with fail
      have H := HH.out
      clear HH
      rcases hT : takeB s 2 234 with c | ⟨x5, s7⟩
      · rw [hT] at H
        dsimp only at H
        subst H
        have HT := Lib.hid hT
        clear hT
        refine (take_any _ s 2 234 (by omega) _ (by go_simp) (by go_simp)).mono ?_
        rw [HT.out]
        rintro e w' ⟨he, rfl⟩
        unfold flt at he
        subst he
        go_wp2_with fail
        exact ⟨rfl, rfl, hbl⟩
      rw [hT] at H
      dsimp only at H
      obtain ⟨-, -, -, -, hx5, hs7⟩ := takeB_ok hT
      have HT := Lib.hid hT
      clear hT
      have HH := Lib.hid H
      clear H
      refine (take_any _ s 2 234 (by omega) _ (by go_simp) (by go_simp)).mono ?_
      rw [HT.out]
      rintro e w' ⟨rfl, rfl⟩
      go_wp2_with fail
      have H := HH.out
      clear HH HT
      have hb' := hbl.setCell (p := ⟨w.heap.size + 1, 0, none⟩) (by simp) (.string s7)
      have k1 : (wr.setCell ⟨w.heap.size + 1, 0, none⟩ (.string s7)).heap[w.heap.size + 1]? = some (.cells #[.string s7] 112 (0, 0)) := blk_put (cs := #[.string s]) hg1 0 _ rfl
      have k2 : (wr.setCell ⟨w.heap.size + 1, 0, none⟩ (.string s7)).heap[w.heap.size + 1 + 1]? = some (.cells #[.int .i64 b1, .int .i64 b2, .int .i64 b3, v, .string ⟨#[]⟩] 26 (0, 0)) := blk_far hg2 (by simp) _
      have k0 : (wr.setCell ⟨w.heap.size + 1, 0, none⟩ (.string s7)).heap[w.heap.size]? = some (.cells #[.int .i64 0, .int .i64 0, .int .i64 0, .slice none 0 0, .string ⟨#[]⟩] 26 (0, 0)) := blk_far hg0 (by simp) _
      have ko := own_setCell ho (p := ⟨w.heap.size + 1, 0, none⟩) (own_ne ho hg1 (by decide)) (.string s7)
      have hs7' : s7.size ≤ b.size := by omega
      clear hg1 hg2 hg0 ho hbl c1 z1 hs7 hs
      obtain ⟨W7, hW7⟩ : ∃ W7, W7 = wr.setCell ⟨w.heap.size + 1, 0, none⟩ (.string s7) := ⟨_, rfl⟩
      rw [← hW7] at hb' k1 k2 k0 ko ⊢
      clear hW7
      obtain ⟨c0, hc0⟩ : ∃ c0, c0 = bt x5 0 := ⟨_, rfl⟩
      have rc0 := bt_range x5 0
      have qc0 : (x5[0].toNat : Int) = c0 := (bt_at x5 0 (by simp [hx5])).trans hc0.symm
      obtain ⟨c1, hc1⟩ : ∃ c1, c1 = bt x5 1 := ⟨_, rfl⟩
      have rc1 := bt_range x5 1
      have qc1 : (x5[1].toNat : Int) = c1 := (bt_at x5 1 (by simp [hx5])).trans hc1.symm
      rw [← hc0, ← hc1] at H
      rw [← hc0] at rc0
      rw [← hc1] at rc1
      clear hc0 hc1
      have hor : bits .or .i64 (c0 * 256) c1 = c0 * 256 + c1 := or_join c0 c1 (by omega) (by omega) (by omega) (by omega)
      have HH := Lib.hid H
      clear H
      go_quiet (fail)
      go_wp2_with fail

      have j1 : (W7.drewN nq).heap[w.heap.size + 1]? = some (.cells #[.string s7] 112 (0, 0)) := k1
      have j2 : (W7.drewN nq).heap[w.heap.size + 1 + 1]? = some (.cells #[.int .i64 b1, .int .i64 b2, .int .i64 b3, v, .string ⟨#[]⟩] 26 (0, 0)) := k2
      have j0 : (W7.drewN nq).heap[w.heap.size]? = some (.cells #[.int .i64 0, .int .i64 0, .int .i64 0, .slice none 0 0, .string ⟨#[]⟩] 26 (0, 0)) := k0
      have jo : (W7.drewN nq).ownsRow w.heap.size 3 1 v xs.length (nums .i64 xs) := ko
      have jb : Below w.heap.size w (W7.drewN nq) := pw_below_drewN hb' _
      clear k1 k2 k0 ko hb'
      obtain ⟨W8, hW8⟩ : ∃ W8, W8 = W7.drewN nq := ⟨_, rfl⟩
      rw [← hW8] at j1 j2 j0 jo jb ⊢
      clear hW8
      have k1 := j1
      have k2 := j2
      have k0 := j0
      have ko := jo
      have hb' := jb
      clear j1 j2 j0 jo jb
      have cr : W8.cell? ⟨w.heap.size + 1, 0, none⟩ = some (.string s7) := blk_cell k1 0
      have zr : W8.frozen? ⟨w.heap.size + 1, 0, none⟩ = false := blk_frozen k1 0

      have H := HH.out
      clear HH
      by_cases h6 : c0 * 256 + c1 ≤ 60000
      rotate_left
      · rw [if_neg h6] at H
        subst H
        have e6 : decide (c0 * 256 + c1 ≤ 60000) = false := decide_eq_false h6
        clear h6
        rw [e6]
        refine (want_no _ _).mono ?_
        rintro e w' ⟨he, rfl⟩
        unfold flt at he
        subst he
        go_wp2_with fail
        exact ⟨rfl, rfl, hb'⟩
      rw [if_pos h6] at H
      have e6 : decide (c0 * 256 + c1 ≤ 60000) = true := decide_eq_true h6
      rw [e6]
      obtain ⟨n, hn⟩ : ∃ n : Nat, c0 * 256 + c1 = (n : Int) := ⟨(c0 * 256 + c1).toNat, by omega⟩
      rw [hn] at H ⊢
      rw [Int.toNat_natCast] at H
      have hn6 : n ≤ 60000 := by omega
      clear hn h6 e6 hor
      have HH := Lib.hid H
      clear H
      refine (want_ok _ _).mono ?_
      rintro e w' ⟨rfl, rfl⟩
      go_wp2_with fail
      have H := HH.out
      clear HH
      rcases hT : takeB s7 n 255 with c | ⟨x6, s8⟩
      · rw [hT] at H
        dsimp only at H
        subst H
        have HT := Lib.hid hT
        clear hT
        refine (take_any _ s7 n 255 (by omega) _ cr zr).mono ?_
        rw [HT.out]
        rintro e w' ⟨he, rfl⟩
        unfold flt at he
        subst he
        go_wp2_with fail
        exact ⟨rfl, rfl, hb'⟩
      rw [hT] at H
      dsimp only at H
      obtain ⟨-, -, -, -, hx6, hs8⟩ := takeB_ok hT
      have HT := Lib.hid hT
      clear hT
      have HH := Lib.hid H
      clear H
      refine (take_any _ s7 n 255 (by omega) _ cr zr).mono ?_
      rw [HT.out]
      rintro e w' ⟨rfl, rfl⟩
      have H := HH.out
      clear HH HT cr zr
      have j1 : (W8.setCell ⟨w.heap.size + 1, 0, none⟩ (.string s8)).heap[w.heap.size + 1]? = some (.cells #[.string s8] 112 (0, 0)) := blk_put (cs := #[.string s7]) k1 0 _ rfl
      have j2 : (W8.setCell ⟨w.heap.size + 1, 0, none⟩ (.string s8)).heap[w.heap.size + 1 + 1]? = some (.cells #[.int .i64 b1, .int .i64 b2, .int .i64 b3, v, .string ⟨#[]⟩] 26 (0, 0)) := blk_far k2 (by simp) _
      have j0 : (W8.setCell ⟨w.heap.size + 1, 0, none⟩ (.string s8)).heap[w.heap.size]? = some (.cells #[.int .i64 0, .int .i64 0, .int .i64 0, .slice none 0 0, .string ⟨#[]⟩] 26 (0, 0)) := blk_far k0 (by simp) _
      have jo : (W8.setCell ⟨w.heap.size + 1, 0, none⟩ (.string s8)).ownsRow w.heap.size 3 1 v xs.length (nums .i64 xs) := own_setCell ko (p := ⟨w.heap.size + 1, 0, none⟩) (own_ne ko k1 (by decide)) _
      have jb : Below w.heap.size w (W8.setCell ⟨w.heap.size + 1, 0, none⟩ (.string s8)) := hb'.setCell (by simp) _
      clear k1 k2 k0 ko hb'
      obtain ⟨W9, hW9⟩ : ∃ W9, W9 = W8.setCell ⟨w.heap.size + 1, 0, none⟩ (.string s8) := ⟨_, rfl⟩
      rw [← hW9] at j1 j2 j0 jo jb ⊢
      clear hW9
      have k1 := j1
      have k2 := j2
      have k0 := j0
      have ko := jo
      have hb' := jb
      clear j1 j2 j0 jo jb
      have cr : W9.cell? ⟨w.heap.size + 1, 0, none⟩ = some (.string s8) := blk_cell k1 0
      have zr : W9.frozen? ⟨w.heap.size + 1, 0, none⟩ = false := blk_frozen k1 0

      have HH := Lib.hid H
      clear H
      go_wp2_with fail
      refine (clone_calls x6 (by omega) _).mono ?_
      rintro e W10 ⟨rfl, hcl⟩
      have j1 : W10.heap[w.heap.size + 1]? = some (.cells #[.string s8] 112 (0, 0)) := (hcl.block _ (blk_lt k1)).trans k1
      have j2 : W10.heap[w.heap.size + 1 + 1]? = some (.cells #[.int .i64 b1, .int .i64 b2, .int .i64 b3, v, .string ⟨#[]⟩] 26 (0, 0)) := (hcl.block _ (blk_lt k2)).trans k2
      have j0 : W10.heap[w.heap.size]? = some (.cells #[.int .i64 0, .int .i64 0, .int .i64 0, .slice none 0 0, .string ⟨#[]⟩] 26 (0, 0)) := (hcl.block _ (blk_lt k0)).trans k0
      have jo : W10.ownsRow w.heap.size 3 1 v xs.length (nums .i64 xs) := pw_own_below ko hcl
      have jb : Below w.heap.size w W10 := below_then hb' hb'.size hcl
      clear k1 k2 k0 ko hb' hcl
      have k1 := j1
      have k2 := j2
      have k0 := j0
      have ko := jo
      have hb' := jb
      clear j1 j2 j0 jo jb
      have cr : W10.cell? ⟨w.heap.size + 1, 0, none⟩ = some (.string s8) := blk_cell k1 0
      have zr : W10.frozen? ⟨w.heap.size + 1, 0, none⟩ = false := blk_frozen k1 0

      have cd : W10.cell? ⟨w.heap.size + 1 + 1, 4, none⟩ = some (.string ⟨#[]⟩) := blk_cell k2 4
      have zd : W10.frozen? ⟨w.heap.size + 1 + 1, 4, none⟩ = false := blk_frozen k2 4
      go_wp2_with fail
      clear cr zr cd zd
      have j1 : (W10.setCell ⟨w.heap.size + 1 + 1, 4, none⟩ (.string x6)).heap[w.heap.size + 1]? = some (.cells #[.string s8] 112 (0, 0)) := blk_far k1 (by simp) _
      have j2 : (W10.setCell ⟨w.heap.size + 1 + 1, 4, none⟩ (.string x6)).heap[w.heap.size + 1 + 1]? = some (.cells #[.int .i64 b1, .int .i64 b2, .int .i64 b3, v, .string x6] 26 (0, 0)) := blk_put (cs := #[.int .i64 b1, .int .i64 b2, .int .i64 b3, v, .string ⟨#[]⟩]) k2 4 _ rfl
      have j0 : (W10.setCell ⟨w.heap.size + 1 + 1, 4, none⟩ (.string x6)).heap[w.heap.size]? = some (.cells #[.int .i64 0, .int .i64 0, .int .i64 0, .slice none 0 0, .string ⟨#[]⟩] 26 (0, 0)) := blk_far k0 (by simp; omega) _
      have jo : (W10.setCell ⟨w.heap.size + 1 + 1, 4, none⟩ (.string x6)).ownsRow w.heap.size 3 1 v xs.length (nums .i64 xs) := own_setCell ko (p := ⟨w.heap.size + 1 + 1, 4, none⟩) (own_ne ko k2 (by decide)) _
      have jb : Below w.heap.size w (W10.setCell ⟨w.heap.size + 1 + 1, 4, none⟩ (.string x6)) := hb'.setCell (by simp; omega) _
      clear k1 k2 k0 ko hb'
      obtain ⟨W11, hW11⟩ : ∃ W11, W11 = W10.setCell ⟨w.heap.size + 1 + 1, 4, none⟩ (.string x6) := ⟨_, rfl⟩
      rw [← hW11] at j1 j2 j0 jo jb ⊢
      clear hW11
      have k1 := j1
      have k2 := j2
      have k0 := j0
      have ko := jo
      have hb' := jb
      clear j1 j2 j0 jo jb
      have cr : W11.cell? ⟨w.heap.size + 1, 0, none⟩ = some (.string s8) := blk_cell k1 0
      have zr : W11.frozen? ⟨w.heap.size + 1, 0, none⟩ = false := blk_frozen k1 0

      refine (fixSum_calls (b.extract 0 (b.size - s8.size)) (by simp; omega) _).mono ?_
      rintro e w' ⟨rfl, rfl⟩
      have hcr := crc_range (b.extract 0 (b.size - s8.size)).data.toList
      obtain ⟨q, hq⟩ : ∃ q, q = crc (b.extract 0 (b.size - s8.size)).data.toList := ⟨_, rfl⟩
      have H := HH.out
      rw [← hq] at H hcr ⊢
      clear hq HH
      have HH := Lib.hid H
      clear H
      go_wp2_with fail
      refine (wput5_calls q hcr.1 hcr.2 _).mono ?_
      rintro e W12 ⟨rfl, hcl⟩
      obtain ⟨sm, hsm⟩ : ∃ sm, sm = strOfNums (beI q 5) := ⟨_, rfl⟩
      have H := HH.out
      rw [← hsm] at H ⊢
      clear hsm HH
      have HH := Lib.hid H
      clear H
      have j1 : W12.heap[w.heap.size + 1]? = some (.cells #[.string s8] 112 (0, 0)) := (hcl.block _ (blk_lt k1)).trans k1
      have j2 : W12.heap[w.heap.size + 1 + 1]? = some (.cells #[.int .i64 b1, .int .i64 b2, .int .i64 b3, v, .string x6] 26 (0, 0)) := (hcl.block _ (blk_lt k2)).trans k2
      have j0 : W12.heap[w.heap.size]? = some (.cells #[.int .i64 0, .int .i64 0, .int .i64 0, .slice none 0 0, .string ⟨#[]⟩] 26 (0, 0)) := (hcl.block _ (blk_lt k0)).trans k0
      have jo : W12.ownsRow w.heap.size 3 1 v xs.length (nums .i64 xs) := pw_own_below ko hcl
      have jb : Below w.heap.size w W12 := below_then hb' hb'.size hcl
      clear k1 k2 k0 ko hb' hcl
      have k1 := j1
      have k2 := j2
      have k0 := j0
      have ko := jo
      have hb' := jb
      clear j1 j2 j0 jo jb
      have cr : W12.cell? ⟨w.heap.size + 1, 0, none⟩ = some (.string s8) := blk_cell k1 0
      have zr : W12.frozen? ⟨w.heap.size + 1, 0, none⟩ = false := blk_frozen k1 0

      have hm5 : min (s8.size : Int) 5 = ((min s8.size 5 : Nat) : Int) := by omega
      have hm6 : ((min s8.size 5 : Nat) : Int) ≤ (s8.size : Int) := by omega
      go_wp2_with fail
      go_quiet (fail)
      go_wp2_with fail
      clear hm5 hm6 cr zr
      have j1 : (W12.drewN nq).heap[w.heap.size + 1]? = some (.cells #[.string s8] 112 (0, 0)) := k1
      have j2 : (W12.drewN nq).heap[w.heap.size + 1 + 1]? = some (.cells #[.int .i64 b1, .int .i64 b2, .int .i64 b3, v, .string x6] 26 (0, 0)) := k2
      have j0 : (W12.drewN nq).heap[w.heap.size]? = some (.cells #[.int .i64 0, .int .i64 0, .int .i64 0, .slice none 0 0, .string ⟨#[]⟩] 26 (0, 0)) := k0
      have jo : (W12.drewN nq).ownsRow w.heap.size 3 1 v xs.length (nums .i64 xs) := ko
      have jb : Below w.heap.size w (W12.drewN nq) := pw_below_drewN hb' _
      clear k1 k2 k0 ko hb'
      obtain ⟨W13, hW13⟩ : ∃ W13, W13 = W12.drewN nq := ⟨_, rfl⟩
      rw [← hW13] at j1 j2 j0 jo jb ⊢
      clear hW13
      have k1 := j1
      have k2 := j2
      have k0 := j0
      have ko := jo
      have hb' := jb
      clear j1 j2 j0 jo jb
      have cr : W13.cell? ⟨w.heap.size + 1, 0, none⟩ = some (.string s8) := blk_cell k1 0
      have zr : W13.frozen? ⟨w.heap.size + 1, 0, none⟩ = false := blk_frozen k1 0

      obtain ⟨hp, hhp⟩ : ∃ hp, hp = Lib.hasPrefix sm.data.toList (s8.extract 0 (min s8.size 5)).data.toList := ⟨_, rfl⟩
      refine (hasPrefix_calls sm (s8.extract 0 (min s8.size 5)) _).mono ?_
      rw [← hhp]
      have H := HH.out
      rw [← hhp] at H
      clear hhp HH
      rintro e w' ⟨rfl, rfl⟩
      cases hp
      · rw [if_neg (by decide)] at H
        subst H
        go_wp2_with fail
        refine (want_no _ _).mono ?_
        rintro e w' ⟨he, rfl⟩
        unfold flt at he
        subst he
        go_wp2_with fail
        exact ⟨rfl, rfl, hb'⟩
      rw [if_pos rfl] at H
      have HH := Lib.hid H
      clear H
      go_wp2_with fail
      refine (want_ok _ _).mono ?_
      rintro e w' ⟨rfl, rfl⟩
      go_wp2_with fail
      have H := HH.out
      clear HH
      rcases hT : takeB s8 5 255 with c | ⟨x7, s9⟩
      · rw [hT] at H
        dsimp only at H
        subst H
        have HT := Lib.hid hT
        clear hT
        refine (take_any _ s8 5 255 (by omega) _ cr zr).mono ?_
        rw [HT.out]
        rintro e w' ⟨he, rfl⟩
        unfold flt at he
        subst he
        go_wp2_with fail
        exact ⟨rfl, rfl, hb'⟩
      rw [hT] at H
      dsimp only at H
      obtain ⟨-, -, -, -, hx7, hs9⟩ := takeB_ok hT
      have HT := Lib.hid hT
      clear hT
      have HH := Lib.hid H
      clear H
      refine (take_any _ s8 5 255 (by omega) _ cr zr).mono ?_
      rw [HT.out]
      rintro e w' ⟨rfl, rfl⟩
      have H := HH.out
      clear HH HT cr zr
      have j1 : (W13.setCell ⟨w.heap.size + 1, 0, none⟩ (.string s9)).heap[w.heap.size + 1]? = some (.cells #[.string s9] 112 (0, 0)) := blk_put (cs := #[.string s8]) k1 0 _ rfl
      have j2 : (W13.setCell ⟨w.heap.size + 1, 0, none⟩ (.string s9)).heap[w.heap.size + 1 + 1]? = some (.cells #[.int .i64 b1, .int .i64 b2, .int .i64 b3, v, .string x6] 26 (0, 0)) := blk_far k2 (by simp) _
      have j0 : (W13.setCell ⟨w.heap.size + 1, 0, none⟩ (.string s9)).heap[w.heap.size]? = some (.cells #[.int .i64 0, .int .i64 0, .int .i64 0, .slice none 0 0, .string ⟨#[]⟩] 26 (0, 0)) := blk_far k0 (by simp) _
      have jo : (W13.setCell ⟨w.heap.size + 1, 0, none⟩ (.string s9)).ownsRow w.heap.size 3 1 v xs.length (nums .i64 xs) := own_setCell ko (p := ⟨w.heap.size + 1, 0, none⟩) (own_ne ko k1 (by decide)) _
      have jb : Below w.heap.size w (W13.setCell ⟨w.heap.size + 1, 0, none⟩ (.string s9)) := hb'.setCell (by simp) _
      clear k1 k2 k0 ko hb'
      obtain ⟨W14, hW14⟩ : ∃ W14, W14 = W13.setCell ⟨w.heap.size + 1, 0, none⟩ (.string s9) := ⟨_, rfl⟩
      rw [← hW14] at j1 j2 j0 jo jb ⊢
      clear hW14
      have k1 := j1
      have k2 := j2
      have k0 := j0
      have ko := jo
      have hb' := jb
      clear j1 j2 j0 jo jb
      have cr : W14.cell? ⟨w.heap.size + 1, 0, none⟩ = some (.string s9) := blk_cell k1 0
      have zr : W14.frozen? ⟨w.heap.size + 1, 0, none⟩ = false := blk_frozen k1 0

      subst H
      clear cr zr
      obtain ⟨Av, cv, hv⟩ := own_slice ko
      subst hv
      have ca0 : W14.cell? ⟨w.heap.size + 1 + 1, 0, none⟩ = some (.int .i64 b1) := blk_cell k2 0
      have cz0 : W14.cell? ⟨w.heap.size, 0, none⟩ = some (.int .i64 0) := blk_cell k0 0
      have cf0 : W14.frozen? ⟨w.heap.size, 0, none⟩ = false := blk_frozen k0 0
      have ca1 : W14.cell? ⟨w.heap.size + 1 + 1, 1, none⟩ = some (.int .i64 b2) := blk_cell k2 1
      have cz1 : W14.cell? ⟨w.heap.size, 1, none⟩ = some (.int .i64 0) := blk_cell k0 1
      have cf1 : W14.frozen? ⟨w.heap.size, 1, none⟩ = false := blk_frozen k0 1
      have ca2 : W14.cell? ⟨w.heap.size + 1 + 1, 2, none⟩ = some (.int .i64 b3) := blk_cell k2 2
      have cz2 : W14.cell? ⟨w.heap.size, 2, none⟩ = some (.int .i64 0) := blk_cell k0 2
      have cf2 : W14.frozen? ⟨w.heap.size, 2, none⟩ = false := blk_frozen k0 2
      have ca3 : W14.cell? ⟨w.heap.size + 1 + 1, 3, none⟩ = some (.slice Av xs.length cv) := blk_cell k2 3
      have cz3 : W14.cell? ⟨w.heap.size, 3, none⟩ = some (.slice none 0 0) := blk_cell k0 3
      have cf3 : W14.frozen? ⟨w.heap.size, 3, none⟩ = false := blk_frozen k0 3
      have ca4 : W14.cell? ⟨w.heap.size + 1 + 1, 4, none⟩ = some (.string x6) := blk_cell k2 4
      have cz4 : W14.cell? ⟨w.heap.size, 4, none⟩ = some (.string ⟨#[]⟩) := blk_cell k0 4
      have cf4 : W14.frozen? ⟨w.heap.size, 4, none⟩ = false := blk_frozen k0 4
      have hN : w.heap.size < W14.heap.size := blk_lt k0
      have Hsub : Hid ((b.size : Int) - (s8.size : Int) + 5 = ((b.size - s8.size : Nat) : Int) + 5) := Lib.hid (by omega)
      have j0 : W14.ownsRow w.heap.size 3 1 (.slice Av xs.length cv) xs.length (nums .i64 xs) := ko
      go_wp2_with fail
      refine bodyPost_ret (v := .tuple #[.agg #[.int .i64 b1, .int .i64 b2, .int .i64 b3, .slice Av xs.length cv, .string x6], .int .i64 ((b.size : Int) - (s8.size : Int) + 5)]) ?_ rfl ?_
      · simp [results, Try.results41, go_sem, *]
      · rw [Hsub.out]
        exact ⟨_, rfl, own_setCell (own_setCell (own_setCell (own_setCell (own_setCell j0 (own_ne j0 k0 (by decide)) _) (own_ne j0 k0 (by decide)) _) (own_ne j0 k0 (by decide)) _) (own_ne j0 k0 (by decide)) _) (own_ne j0 k0 (by decide)) _, ((((hb'.setCell (Nat.le_refl _) _).setCell (Nat.le_refl _) _).setCell (Nat.le_refl _) _).setCell (Nat.le_refl _) _).setCell (Nat.le_refl _) _⟩
end Go.Proofs.Ytlkdehflipfpbaa
