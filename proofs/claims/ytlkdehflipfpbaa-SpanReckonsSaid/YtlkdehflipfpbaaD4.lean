import Derived.Test.YtlkdehflipfpbaaD3
namespace Go.Proofs.Ytlkdehflipfpbaa.QSpanReckons
open Go.RowKit Go.Proofs.YtlkdehflipfpbaaW.PrintWords Go.Proofs.YtlkdehflipfpbaaW.PrintLast Go.Proofs.YtlkdehflipfpbaaW.PrintMore
set_option linter.unusedSimpArgs false
attribute [local go_sem high] eqA48
/-- n marks, out of a number's bits. -/
def bitsL (n m : Nat) : Array Bool := ((List.range n).map fun i => m.testBit i).toArray
/-- What lies behind the call's beginning: the spans, both Accs, the lent list. -/
structure LawW (w : World) (x y : Sp) (s t : Bool) (l : List Sp) (g cap : Nat) (W : World) : Prop where
  hx : W.heap[w.heap.size]? = some (.cells #[.int .i64 x.f0, .int .i64 x.f1] 48 (0, 0))
  hy : W.heap[w.heap.size + 1]? = some (.cells #[.int .i64 y.f0, .int .i64 y.f1] 48 (0, 0))
  ha : W.heap[w.heap.size + 1 + 1]? = some (.cells #[.bool s] 54 (0, 0))
  hb : W.heap[w.heap.size + 1 + 1 + 1]? = some (.cells #[.bool t] 56 (0, 0))
  hm : Kd.R k48 48 W (w.heap.size + 1 + 1 + 1 + 1) (fun _ => True) (.slice (some ⟨g, 0, none⟩) (l.length + 1) cap) (l ++ [⟨-77, 0⟩])
  bl : Below w.heap.size w W
section
variable {w W W' : World} {x y : Sp} {s t : Bool} {l : List Sp} {g cap : Nat}
theorem LawW.below (h : LawW w x y s t l g cap W) (hb : Below W.heap.size W W') : LawW w x y s t l g cap W' :=
  ⟨(hb.block _ (blk_lt h.hx)).trans h.hx, (hb.block _ (blk_lt h.hy)).trans h.hy, (hb.block _ (blk_lt h.ha)).trans h.ha, (hb.block _ (blk_lt h.hb)).trans h.hb, Kd.R_below h.hm hb, below_then h.bl h.bl.size hb⟩
theorem LawW.step1 (h : LawW w x y s t l g cap W) {r : Bool} (hI : IsS54 w W' (w.heap.size + 1 + 1) r) (hB : Below w.heap.size w W') (hK : KeepBut W W' (w.heap.size + 1 + 1) none) : LawW w x y r t l g cap W' :=
  ⟨KeepBut.blk hK h.hx (by omega) (by simp), KeepBut.blk hK h.hy (by omega) (by simp), hI.1, KeepBut.blk hK h.hb (by omega) (by simp),
    Kd.R_mono (Kd.R_keep (ok := fun k => True ∧ k ≠ w.heap.size + 1 + 1) (Kd.R_types h.hm h.ha (by decide)) hK (fun _ h => h.2)) (fun _ h => h.1), hB⟩
theorem LawW.step2 (h : LawW w x y s t l g cap W) {r : Bool} (hI : IsS56 w W' (w.heap.size + 1 + 1 + 1) r) (hB : Below w.heap.size w W') (hK : KeepBut W W' (w.heap.size + 1 + 1 + 1) none) : LawW w x y s r l g cap W' :=
  ⟨KeepBut.blk hK h.hx (by omega) (by simp), KeepBut.blk hK h.hy (by omega) (by simp), KeepBut.blk hK h.ha (by omega) (by simp), hI.1,
    Kd.R_mono (Kd.R_keep (ok := fun k => True ∧ k ≠ w.heap.size + 1 + 1 + 1) (Kd.R_types h.hm h.hb (by decide)) hK (fun _ h => h.2)) (fun _ h => h.1), hB⟩
theorem LawW.is1 (h : LawW w x y s t l g cap W) : IsS54 w W (w.heap.size + 1 + 1) s := ⟨h.ha, by omega⟩
theorem LawW.is2 (h : LawW w x y s t l g cap W) : IsS56 w W (w.heap.size + 1 + 1 + 1) t := ⟨h.hb, by omega⟩
theorem LawW.cells (h : LawW w x y s t l g cap W) : W.cell? ⟨w.heap.size, 0, none⟩ = some (.int .i64 x.f0) ∧ W.cell? ⟨w.heap.size, 1, none⟩ = some (.int .i64 x.f1) ∧ W.cell? ⟨w.heap.size + 1, 0, none⟩ = some (.int .i64 y.f0) ∧ W.cell? ⟨w.heap.size + 1, 1, none⟩ = some (.int .i64 y.f1) ∧ W.cell? ⟨w.heap.size + 1 + 1, 0, none⟩ = some (.bool s) ∧ W.cell? ⟨w.heap.size + 1 + 1 + 1, 0, none⟩ = some (.bool t) :=
  ⟨(blk_cell h.hx 0).trans rfl, (blk_cell h.hx 1).trans rfl, (blk_cell h.hy 0).trans rfl, (blk_cell h.hy 1).trans rfl, (blk_cell h.ha 0).trans rfl, (blk_cell h.hb 0).trans rfl⟩
theorem LawW.xy (h : LawW w x y s t l g cap W) : W.cell? ⟨w.heap.size, 0, none⟩ = some (.int .i64 x.f0) ∧ W.cell? ⟨w.heap.size, 1, none⟩ = some (.int .i64 x.f1) ∧ W.cell? ⟨w.heap.size + 1, 0, none⟩ = some (.int .i64 y.f0) ∧ W.cell? ⟨w.heap.size + 1, 1, none⟩ = some (.int .i64 y.f1) :=
  ⟨h.cells.1, h.cells.2.1, h.cells.2.2.1, h.cells.2.2.2.1⟩
theorem LawW.drew (h : LawW w x y s t l g cap W) : LawW w x y s t l g cap W.drew := ⟨h.hx, h.hy, h.ha, h.hb, Kd.R_drew h.hm, below_drew1 h.bl⟩
/-- The lent list, read. -/
theorem LawW.lent (h : LawW w x y s t l g cap W) : l.length ≤ cap ∧ ∀ W_, KeepBut W W_ (w.heap.size + 1 + 1) none → Kd.C k48 W_ (some ⟨g, 0, none⟩) l.length l := by
  have h1 := Kd.R_take (m := l.length) h.hm (by simp)
  rw [List.take_append_of_le_length (Nat.le_refl _), List.take_length] at h1
  have h2 := Kd.R_reads' h1
  refine ⟨h2.2.1, fun W_ hk => C_keepS h2.2.2 hk (fun ad e _ => ?_)⟩
  injection e with e
  subst e
  have h3 := Kd.R_base h.hm g (by simp [Value.ownBlock])
  show g ≠ _
  omega
end
--TABLE
def reckons.T6 : Bool × List (List Nat × List Nat) := (true, [([], []), ([0, 0], [0]), ([1], [1]), ([1], [1]), ([2, 3, 1, 1], [1, 2, 3]), ([1], [1]), ([1], [1]), ([5, 6, 4, 1], [1, 5, 6]), ([4, 7, 1], [1, 4, 7]), ([1, 8], [1, 8]), ([9, 7], [9]), ([10], [10]), ([11, 10], [10, 11]), ([12, 10], [10, 12]), ([13, 10], [10, 13]), ([14, 10], [10, 14]), ([10], [10]), ([16, 10], [10, 16]), ([17, 10], [10, 17]), ([18, 10], [10, 18]), ([15, 19, 10], [10, 15, 19]), ([10, 20], [10, 20]), ([21, 10], [21]), ([22], [22]), ([22], [22]), ([22], [22]), ([23, 24, 25, 22, 22], [22, 23, 24, 25]), ([22], [22]), ([22], [22]), ([22], [22]), ([27, 28, 29, 26, 22], [22, 27, 28, 29]), ([26, 30, 22], [22, 26, 30]), ([22, 31], [22, 31]), ([32, 30], [32]), ([33], [33]), ([34, 33], [33, 34]), ([35, 33], [33, 35]), ([36, 33], [33, 36]), ([37, 33], [33, 37]), ([33], [33]), ([39, 33], [33, 39]), ([40, 33], [33, 40]), ([41, 33], [33, 41]), ([38, 42, 33], [33, 38, 42]), ([33, 43], [33, 43]), ([44, 33], [44]), ([45], [45]), ([45], [45]), ([45], [45]), ([46, 47, 48, 45, 45], [45, 46, 47, 48]), ([45], [45]), ([45], [45]), ([45], [45]), ([50, 51, 52, 49, 45], [45, 50, 51, 52]), ([49, 53, 45], [45, 49, 53]), ([45, 54], [45, 54]), ([55, 53], [55]), ([56], [56]), ([57, 56], [56, 57]), ([58, 56], [56, 58]), ([59, 56], [56, 59]), ([60, 56], [56, 60]), ([56], [56]), ([62, 56], [56, 62]), ([63, 56], [56, 63]), ([64, 56], [56, 64]), ([61, 65, 56], [56, 61, 65]), ([56, 66], [56, 66]), ([67, 56], [67]), ([68], [68]), ([68], [68]), ([68], [68]), ([69, 70, 71, 68, 68], [68, 69, 70, 71]), ([68], [68]), ([68], [68]), ([68], [68]), ([73, 74, 75, 72, 68], [68, 73, 74, 75]), ([72, 76, 68], [68, 72, 76]), ([68, 77], [68, 77]), ([78, 76], [78]), ([79], [79]), ([80, 79], [79, 80]), ([81, 79], [79, 81]), ([82, 79], [79, 82]), ([83, 79], [79, 83]), ([79], [79]), ([85, 79], [79, 85]), ([86, 79], [79, 86]), ([87, 79], [79, 87]), ([84, 88, 79], [79, 84, 88]), ([79, 89], [79, 89]), ([90, 79], [90]), ([91], [91]), ([92, 91], [91, 92]), ([93, 91], [91, 93]), ([94, 91], [91, 94]), ([95, 91], [91, 95]), ([91], [91]), ([97, 91], [91, 97]), ([98, 91], [91, 98]), ([99, 91], [91, 99]), ([100, 91], [91, 100]), ([96, 101, 91], [91, 96, 101]), ([91, 102], [91, 102]), ([103, 91], [103]), ([104], [104]), ([104], [104]), ([105, 106, 104, 104], [104, 105, 106]), ([104, 107], [104, 107]), ([108, 107, 0, 1, 2, 3, 4, 5, 6, 7, 8, 9, 10, 11, 12, 13, 14, 15, 16, 17, 18, 19, 20, 21, 22, 23, 24, 25, 26, 27, 28, 29, 30, 31, 32, 33, 34, 35, 36, 37, 38, 39, 40, 41, 42, 43, 44, 45, 46, 47, 48, 49, 50, 51, 52, 53, 54, 55, 56, 57, 58, 59, 60, 61, 62, 63, 64, 65, 66, 67, 68, 69, 70, 71, 72, 73, 74, 75, 76, 77, 78, 79, 80, 81, 82, 83, 84, 85, 86, 87, 88, 89, 90, 91, 92, 93, 94, 95, 96, 97, 98, 99, 100, 101, 102, 103, 104, 105, 106, 107, 108], [108])])
def reckons.B6 : List Nat := [0, 1, 3, 3, 15, 3, 3, 127, 255, 511, 1023, 2047, 4095, 8191, 16383, 32767, 2047, 67583, 198655, 460799, 1048575, 2097151, 4194303, 8388607, 8388607, 8388607, 67108863, 8388607, 8388607, 8388607, 1073741823, 2147483647, 4294967295, 8589934591, 17179869183, 34359738367, 68719476735, 137438953471, 274877906943, 17179869183, 566935683071, 1666447310847, 3865470566399, 8796093022207, 17592186044415, 35184372088831, 70368744177663, 70368744177663, 70368744177663, 562949953421311, 70368744177663, 70368744177663, 70368744177663, 9007199254740991, 18014398509481983, 36028797018963967, 72057594037927935, 144115188075855871, 288230376151711743, 576460752303423487, 1152921504606846975, 2305843009213693951, 144115188075855871, 4755801206503243775, 13979173243358019583, 32425917317067571199, 73786976294838206463, 147573952589676412927, 295147905179352825855, 590295810358705651711, 590295810358705651711, 590295810358705651711, 4722366482869645213695, 590295810358705651711, 590295810358705651711, 590295810358705651711, 75557863725914323419135, 151115727451828646838271, 302231454903657293676543, 604462909807314587353087, 1208925819614629174706175, 2417851639229258349412351, 4835703278458516698824703, 9671406556917033397649407, 19342813113834066795298815, 1208925819614629174706175, 39894552047282762765303807, 117265804502619029946499071, 272008309413291564308889599, 618970019642690137449562111, 1237940039285380274899124223, 2475880078570760549798248447, 4951760157141521099596496895, 9903520314283042199192993791, 19807040628566084398385987583, 39614081257132168796771975167, 79228162514264337593543950335, 4951760157141521099596496895, 163408085185670196286684397567, 480320735242727546660860198911, 1114146035356842247409211801599, 2381796635585071648905915006975, 5070602400912917605986812821503, 10141204801825835211973625643007, 20282409603651670423947251286015, 40564819207303340847894502572031, 40564819207303340847894502572031, 162259276829213363391578010288127, 324518553658426726783156020576255, 649037107316853453566312041152511]
theorem reckons.tab6 : rtab .any (opsOf Try.f6 6) = reckons.T6 := by kernel_rfl
theorem reckons.bits6 : waitsOk reckons.T6.2 reckons.B6 = true := by kernel_rfl
--ENDTABLE
set_option maxRecDepth 100000 in
set_option maxHeartbeats 8000000 in
theorem reckons_short (x y : Sp) (A : Option Addr) (cp : Nat) (l : List Sp) (c : Int) (over : Bool) (w : World) (hr : Kd.C k48 w A l.length l) (hcp : l.length ≤ cp) (hin : ∀ s ∈ l, inS s) (hx : inS x) (hy : inS y) (hc : in64 c) (hl : l.length ≤ 60) :
    Calls Try.prog 6 #[.agg #[.int .i64 x.f0, .int .i64 x.f1], .agg #[.int .i64 y.f0, .int .i64 y.f1], .slice A l.length cp, .int .i64 c, .bool over] w fun e w' => e = .returned (.bool true) ∧ Below w.heap.size w w' := by
  obtain ⟨p1, p2, s1, hp⟩ : ∃ p1 p2 s1, plusS over l = (p1, p2, s1) := ⟨_, _, _, rfl⟩
  obtain ⟨m1, m2, s2, hm⟩ : ∃ p1 p2 s1', minusS s1 x y = (p1, p2, s1') := ⟨_, _, _, rfl⟩
  obtain ⟨t1, t2, s3, ht⟩ : ∃ p1 p2 s1', timesS s2 x c = (p1, p2, s1') := ⟨_, _, _, rfl⟩
  obtain ⟨c1, c2, s4, hcr⟩ : ∃ p1 p2 s1', crossS s3 x y = (p1, p2, s1') := ⟨_, _, _, rfl⟩
  have fp := Aside0.mk (plus_f over l (by omega) hin 100 (by omega))
  have fq := Aside0.mk (refPlus_f over l (by omega) hin 100 (by omega))
  have gm := Aside0.mk (minus_f s1 x y hx hy 100 (by omega))
  have gn := Aside0.mk (refMinus_f s1 x y hx hy 100 (by omega))
  have ft := Aside0.mk (times_f s2 x c hx hc 100 (by omega))
  have fu := Aside0.mk (refTimes_f s2 x c hx hc 100 (by omega))
  have fc := Aside0.mk (cross_f s3 x y hx hy 100 (by omega))
  have fd := Aside0.mk (refCross_f s3 x y hx hy 100 (by omega))
  rw [hp] at fp fq
  rw [hm] at gm gn
  rw [ht] at ft fu
  rw [hcr] at fc fd
  have HR := Aside0.mk hr
  have HL := Aside0.mk hl
  clear hr hin hx hy hc hp hm ht hcr
  obtain ⟨W0, hW0⟩ : ∃ W, W = ((((w.alloc (.cells #[.int .i64 x.f0, .int .i64 x.f1] 48)).alloc (.cells #[.int .i64 y.f0, .int .i64 y.f1] 48)).alloc (.cells #[.bool over] 54)).alloc (.cells #[.bool over] 56)) := ⟨_, rfl⟩
  have hB0 : Below w.heap.size w W0 := by rw [hW0]; exact below_alloc (below_alloc (below_alloc (below_alloc (Below.refl _ _) _) _) _) _
  have b0 : W0.heap[w.heap.size]? = some (.cells #[.int .i64 x.f0, .int .i64 x.f1] 48 (0, 0)) := by rw [hW0]; exact big.heap_old _ _ _ (big.heap_old _ _ _ (big.heap_old _ _ _ (heap_alloc_new w _)))
  have b1 : W0.heap[w.heap.size + 1]? = some (.cells #[.int .i64 y.f0, .int .i64 y.f1] 48 (0, 0)) := by rw [hW0]; exact big.heap_old _ _ _ (big.heap_old _ _ _ (big.heap_at1 w _ _))
  have b2 : W0.heap[w.heap.size + 1 + 1]? = some (.cells #[.bool over] 54 (0, 0)) := by rw [hW0]; exact big.heap_old _ _ _ (big.heap_at2 w _ _ _)
  have b3 : W0.heap[w.heap.size + 1 + 1 + 1]? = some (.cells #[.bool over] 56 (0, 0)) := by rw [hW0]; exact big.heap_at3 w _ _ _ _
  have hs0 : W0.heap.size = w.heap.size + 1 + 1 + 1 + 1 := by rw [hW0]; simp
  have H0 := Aside0.mk (And.intro hB0 (And.intro b0 (And.intro b1 (And.intro b2 (And.intro b3 hs0)))))
  have HW0 := Aside0.mk hW0
  clear hB0 b0 b1 b2 b3 hs0 hW0
  go_enter Try.func6, Try.ntmps6
  go_wp2_with fail
  rw [← HW0.out]
  refine (lentSpans_calls A cp l W0 (Kd.C_below HR.out H0.out.1) (by omega)).mono ?_
  rintro e w1 ⟨g, cap, rfl, hcap, hm1, hb1⟩
  have HH : Aside0 (LawW w x y over over l g cap w1) := by
    obtain ⟨hB0, b0, b1, b2, b3, hs0⟩ := H0.out
    refine ⟨⟨(hb1.block _ (blk_lt b0)).trans b0, (hb1.block _ (blk_lt b1)).trans b1, (hb1.block _ (blk_lt b2)).trans b2, (hb1.block _ (blk_lt b3)).trans b3, ?_, below_then hB0 hB0.size hb1⟩⟩
    rw [hs0] at hm1
    exact hm1
  clear hm1 hb1 H0 HW0
  go_wp2_with fail
  --BEGIN
  refine start_ (n := 110) (S := fun w' => w'.cell? ⟨w.heap.size, 0, none⟩ = some (.int .i64 x.f0) ∧ w'.cell? ⟨w.heap.size, 1, none⟩ = some (.int .i64 x.f1) ∧ w'.cell? ⟨w.heap.size + 1, 0, none⟩ = some (.int .i64 y.f0) ∧ w'.cell? ⟨w.heap.size + 1, 1, none⟩ = some (.int .i64 y.f1)) (ds := []) (bitsL 110 0) (by kernel_rfl) rfl rfl HH.out.drew.xy (fun hHeld => ?_); refine with_tabW reckons.tab6 reckons.bits6 (fun HT_ HW_ => ?_)
  replace HH := Aside0.mk HH.out.drew
  generalize w1.drew = w1' at HH hHeld ⊢
  refine one_ (i := 0) (N := some 30) (bitsL 110 1) rfl rfl (one_of HT_.out (by kernel_rfl)) (by decide) (fun K hK => ?_)
  refine goes_ Try.func23 (by kernel_rfl) rfl #[] (by rfl) rfl rfl (by (try simp only [List.map_toArray, List.map_cons, List.map_nil]); first | done | rfl) ?_
  refine (alive_calls _).mono ?_
  rintro e w2 ⟨rfl, hb2⟩
  refine ⟨_, rfl, ?_⟩
  replace HH := Aside0.mk (HH.out.below hb2)
  clear hb2
  refine hK.out _ _ HH.out.xy (fun hHeld => ?_)
  clear hK K
  refine norm_ (a' := ?_) ?_ ?_
  rotate_left
  · show Act.put _ (some 30) _ = _
    simp only [Act.put, List.setIfInBounds_toArray, List.set_cons_zero, List.set_cons_succ, i64_w, i32_w]
    rfl
  refine pure_ (i := 1) (N := some 31) (v := ?_) (a' := ?_) (bitsL 110 3) rfl rfl (any_of HT_.out (by kernel_rfl)) (fun _ _ _ h => h) (Or.inl ⟨by rfl, ?_⟩) ?_ ?_
  rotate_left
  · intro w'
    go_simp
    with_reducible rfl
  rotate_left
  · simp only [Act.put, List.setIfInBounds_toArray, List.set_cons_zero, List.set_cons_succ, i64_w, i32_w]
    rfl
  refine pure_ (i := 2) (N := some 32) (v := ?_) (a' := ?_) (bitsL 110 7) rfl rfl (any_of HT_.out (by kernel_rfl)) (fun _ _ _ h => h) (Or.inl ⟨by rfl, ?_⟩) ?_ ?_
  rotate_left
  · intro w'
    go_simp
    with_reducible rfl
  rotate_left
  · simp only [Act.put, List.setIfInBounds_toArray, List.set_cons_zero, List.set_cons_succ, i64_w, i32_w]
    rfl
  refine pure_ (i := 3) (N := some 33) (v := ?_) (a' := ?_) (bitsL 110 15) rfl rfl (any_of HT_.out (by kernel_rfl)) (fun _ _ _ h => h) (Or.inl ⟨by rfl, ?_⟩) ?_ ?_
  rotate_left
  · intro w'
    go_simp
    with_reducible rfl
  rotate_left
  · simp only [Act.put, List.setIfInBounds_toArray, List.set_cons_zero, List.set_cons_succ, i64_w, i32_w]
    rfl
  refine pure_ (i := 5) (N := some 35) (v := ?_) (a' := ?_) (bitsL 110 47) rfl rfl (any_of HT_.out (by kernel_rfl)) (fun _ _ _ h => h) (Or.inl ⟨by rfl, ?_⟩) ?_ ?_
  rotate_left
  · intro w'
    go_simp
    with_reducible rfl
  rotate_left
  · simp only [Act.put, List.setIfInBounds_toArray, List.set_cons_zero, List.set_cons_succ, i64_w, i32_w]
    rfl
  refine pure_ (i := 6) (N := some 36) (v := ?_) (a' := ?_) (bitsL 110 111) rfl rfl (any_of HT_.out (by kernel_rfl)) (fun _ _ _ h => h) (Or.inl ⟨by rfl, ?_⟩) ?_ ?_
  rotate_left
  · intro w'
    go_simp
    with_reducible rfl
  rotate_left
  · simp only [Act.put, List.setIfInBounds_toArray, List.set_cons_zero, List.set_cons_succ, i64_w, i32_w]
    rfl
  refine one_ (i := 4) (N := some 34) (bitsL 110 127) rfl rfl (one_of HT_.out (by kernel_rfl)) (by decide) (fun K hK => ?_)
  refine goes_ Try.func25 (by kernel_rfl) rfl #[.pointer (some ⟨w.heap.size + 1 + 1, 0, none⟩), .slice (some ⟨g, 0, none⟩) l.length cap] (by rfl) rfl rfl (by (try simp only [List.map_toArray, List.map_cons, List.map_nil]); first | done | rfl) ?_
  refine (span_Acc_Plus.calls 100 (w.heap.size + 1 + 1) over (some ⟨g, 0, none⟩) cap l p1 p2 s1 w _ HH.out.is1 HH.out.bl HH.out.lent.2 HH.out.lent.1 fp.out).mono ?_
  rintro e w3 ⟨rfl, hI, hB, hK2⟩
  refine ⟨_, rfl, ?_⟩
  replace HH := Aside0.mk (HH.out.step1 hI hB hK2)
  clear hI hB hK2
  refine hK.out _ _ HH.out.xy (fun hHeld => ?_)
  clear hK K
  refine norm_ (a' := ?_) ?_ ?_
  rotate_left
  · show Act.put _ (some 34) _ = _
    simp only [Act.put, List.setIfInBounds_toArray, List.set_cons_zero, List.set_cons_succ, i64_w, i32_w]
    rfl
  refine one_ (i := 7) (N := some 37) (bitsL 110 255) rfl rfl (one_of HT_.out (by kernel_rfl)) (by decide) (fun K hK => ?_)
  refine goes_ Try.func26 (by kernel_rfl) rfl #[.pointer (some ⟨w.heap.size + 1 + 1 + 1, 0, none⟩), .slice A l.length cp] (by rfl) rfl rfl (by (try simp only [List.map_toArray, List.map_cons, List.map_nil]); first | done | rfl) ?_
  refine (picketref1_Acc_Plus.calls 100 (w.heap.size + 1 + 1 + 1) over A cp l p1 p2 s1 w _ HH.out.is2 HH.out.bl (fun W_ hk => C_keepS (Kd.C_below HR.out HH.out.bl) hk (fun ad e hn => by have := C_lt_S HR.out ad e hn; omega)) hcp fq.out).mono ?_
  rintro e w4 ⟨rfl, hI, hB, hK2⟩
  refine ⟨_, rfl, ?_⟩
  replace HH := Aside0.mk (HH.out.step2 hI hB hK2)
  clear hI hB hK2
  refine hK.out _ _ HH.out.xy (fun hHeld => ?_)
  clear hK K
  refine norm_ (a' := ?_) ?_ ?_
  rotate_left
  · show Act.put _ (some 37) _ = _
    simp only [Act.put, List.setIfInBounds_toArray, List.set_cons_zero, List.set_cons_succ, i64_w, i32_w]
    rfl
  refine pure_ (i := 8) (N := some 38) (v := ?_) (a' := ?_) (bitsL 110 511) rfl rfl (any_of HT_.out (by kernel_rfl)) (fun _ _ _ h => h) (Or.inl ⟨by rfl, ?_⟩) ?_ ?_
  rotate_left
  · intro w'
    go_simp
    with_reducible rfl
  rotate_left
  · simp only [Act.put, List.setIfInBounds_toArray, List.set_cons_zero, List.set_cons_succ, i64_w, i32_w]
    rfl
  refine pure_ (i := 9) (N := some 39) (v := ?_) (a' := ?_) (bitsL 110 1023) rfl rfl (any_of HT_.out (by kernel_rfl)) (fun _ _ _ h => h) (Or.inl ⟨by rfl, ?_⟩) ?_ ?_
  rotate_left
  · intro w'
    go_simp
    with_reducible rfl
  rotate_left
  · simp only [Act.put, List.setIfInBounds_toArray, List.set_cons_zero, List.set_cons_succ, i64_w, i32_w]
    rfl
  refine pure_ (i := 10) (N := some 40) (v := ?_) (a' := ?_) (bitsL 110 2047) rfl rfl (any_of HT_.out (by kernel_rfl)) (fun _ _ _ h => h) (Or.inl ⟨by rfl, ?_⟩) ?_ ?_
  rotate_left
  · intro w'
    go_simp
    with_reducible rfl
  rotate_left
  · simp only [Act.put, List.setIfInBounds_toArray, List.set_cons_zero, List.set_cons_succ, i64_w, i32_w]
    rfl
  refine pure_ (i := 11) (N := some 41) (v := ?_) (a' := ?_) (bitsL 110 4095) rfl rfl (any_of HT_.out (by kernel_rfl)) (fun _ _ _ h => h) (Or.inl ⟨by rfl, ?_⟩) ?_ ?_
  rotate_left
  · intro w'
    go_simp
    with_reducible rfl
  rotate_left
  · simp only [Act.put, List.setIfInBounds_toArray, List.set_cons_zero, List.set_cons_succ, i64_w, i32_w]
    rfl
  refine pure_ (i := 12) (N := some 42) (v := ?_) (a' := ?_) (bitsL 110 8191) rfl rfl (any_of HT_.out (by kernel_rfl)) (fun _ _ _ h => h) (Or.inl ⟨by rfl, ?_⟩) ?_ ?_
  rotate_left
  · intro w'
    go_simp
    with_reducible rfl
  rotate_left
  · simp only [Act.put, List.setIfInBounds_toArray, List.set_cons_zero, List.set_cons_succ, i64_w, i32_w]
    rfl
  refine pure_ (i := 13) (N := some 43) (v := ?_) (a' := ?_) (bitsL 110 16383) rfl rfl (any_of HT_.out (by kernel_rfl)) (fun _ _ _ h => h) (Or.inl ⟨by rfl, ?_⟩) ?_ ?_
  rotate_left
  · intro w'
    go_simp
    with_reducible rfl
  rotate_left
  · simp only [Act.put, List.setIfInBounds_toArray, List.set_cons_zero, List.set_cons_succ, i64_w, i32_w]
    rfl
  refine pure_ (i := 14) (N := some 44) (v := ?_) (a' := ?_) (bitsL 110 32767) rfl rfl (any_of HT_.out (by kernel_rfl)) (fun _ _ _ h => h) (Or.inl ⟨by rfl, ?_⟩) ?_ ?_
  rotate_left
  · intro w'
    go_simp
    with_reducible rfl
  rotate_left
  · simp only [Act.put, List.setIfInBounds_toArray, List.set_cons_zero, List.set_cons_succ, i64_w, i32_w]
    rfl
  refine pure_ (i := 16) (N := some 46) (v := ?_) (a' := ?_) (bitsL 110 98303) rfl rfl (any_of HT_.out (by kernel_rfl)) (fun _ _ _ h => h) (Or.inl ⟨by rfl, ?_⟩) ?_ ?_
  rotate_left
  · intro w'
    go_simp
    with_reducible rfl
  rotate_left
  · simp only [Act.put, List.setIfInBounds_toArray, List.set_cons_zero, List.set_cons_succ, i64_w, i32_w]
    rfl
  refine pure_ (i := 17) (N := some 47) (v := ?_) (a' := ?_) (bitsL 110 229375) rfl rfl (any_of HT_.out (by kernel_rfl)) (fun _ _ _ h => h) (Or.inl ⟨by rfl, ?_⟩) ?_ ?_
  rotate_left
  · intro w'
    go_simp
    with_reducible rfl
  rotate_left
  · simp only [Act.put, List.setIfInBounds_toArray, List.set_cons_zero, List.set_cons_succ, i64_w, i32_w]
    rfl
  refine pure_ (i := 18) (N := some 48) (v := ?_) (a' := ?_) (bitsL 110 491519) rfl rfl (any_of HT_.out (by kernel_rfl)) (fun _ _ _ h => h) (Or.inl ⟨by rfl, ?_⟩) ?_ ?_
  rotate_left
  · intro w'
    go_simp
    with_reducible rfl
  rotate_left
  · simp only [Act.put, List.setIfInBounds_toArray, List.set_cons_zero, List.set_cons_succ, i64_w, i32_w]
    rfl
  obtain ⟨-, -, -, -, q4, q5⟩ := HH.out.cells
  refine join_ (σ := Unit) 90 (bitsL 110 1048575) (fun _ => [(45, .bool s1), (49, .bool s1)]) (fun _ w' => LawW w x y s1 s1 l g cap w') ?_ ?_
  rotate_left
  · intro hCont
    refine two_ (i := 15) (j := 19) (Ni := some 45) (Nj := some 49) (bitsL 110 524287) (bitsL 110 1015807) rfl rfl rfl rfl (two_of HT_.out (by kernel_rfl)) (by decide) (by decide) (fun K hK => ?_) (fun K hK => ?_)
    · skip
      refine value_ (w1 := w4) (v := .bool s1) (by rfl) rfl (by go_simp) ?_
      refine hK.out _ _ HH.out.xy (fun hHeld => ?_)
      clear hK K
      refine norm_ (a' := ?_) ?_ ?_
      rotate_left
      · show Act.put _ (some 45) _ = _
        simp only [Act.put, List.setIfInBounds_toArray, List.set_cons_zero, List.set_cons_succ, i64_w, i32_w]
        rfl
      refine one_ (i := 19) (N := some 49) (bitsL 110 1048575) rfl rfl (one_of HT_.out (by kernel_rfl)) (by decide) (fun K hK => ?_)
      refine value_ (w1 := w4) (v := .bool s1) (by rfl) rfl (by go_simp) ?_
      refine hK.out _ _ HH.out.xy (fun hHeld => ?_)
      clear hK K
      refine norm_ (a' := ?_) ?_ ?_
      rotate_left
      · show Act.put _ (some 49) _ = _
        simp only [Act.put, List.setIfInBounds_toArray, List.set_cons_zero, List.set_cons_succ, i64_w, i32_w]
        rfl
      exact norm_ (by simp only [putAll, Act.put, List.setIfInBounds_toArray, List.set_cons_zero, List.set_cons_succ]) (hCont () _ HH.out)
    · skip
      refine value_ (w1 := w4) (v := .bool s1) (by rfl) rfl (by go_simp) ?_
      refine hK.out _ _ HH.out.xy (fun hHeld => ?_)
      clear hK K
      refine norm_ (a' := ?_) ?_ ?_
      rotate_left
      · show Act.put _ (some 49) _ = _
        simp only [Act.put, List.setIfInBounds_toArray, List.set_cons_zero, List.set_cons_succ, i64_w, i32_w]
        rfl
      refine one_ (i := 15) (N := some 45) (bitsL 110 1048575) rfl rfl (one_of HT_.out (by kernel_rfl)) (by decide) (fun K hK => ?_)
      refine value_ (w1 := w4) (v := .bool s1) (by rfl) rfl (by go_simp) ?_
      refine hK.out _ _ HH.out.xy (fun hHeld => ?_)
      clear hK K
      refine norm_ (a' := ?_) ?_ ?_
      rotate_left
      · show Act.put _ (some 45) _ = _
        simp only [Act.put, List.setIfInBounds_toArray, List.set_cons_zero, List.set_cons_succ, i64_w, i32_w]
        rfl
      exact norm_ (by simp only [putAll, Act.put, List.setIfInBounds_toArray, List.set_cons_zero, List.set_cons_succ]) (hCont () _ HH.out)
  rintro _ w5 HH_
  clear HH q4 q5 hHeld
  have HH := Aside0.mk HH_
  clear HH_
  have hHeld := HH.out.xy
  refine norm_ (a' := ?_) ?_ ?_
  rotate_left
  · simp only [putAll, Act.put, List.setIfInBounds_toArray, List.set_cons_zero, List.set_cons_succ]
    rfl
  refine pure_ (i := 20) (N := some 50) (v := ?_) (a' := ?_) (bitsL 110 2097151) rfl rfl (any_of HT_.out (by kernel_rfl)) (fun _ _ _ h => h) (Or.inl ⟨by rfl, ?_⟩) ?_ ?_
  rotate_left
  · intro w'
    go_simp
    with_reducible rfl
  rotate_left
  · simp only [Act.put, List.setIfInBounds_toArray, List.set_cons_zero, List.set_cons_succ, i64_w, i32_w]
    rfl
  refine pure_ (i := 21) (N := some 51) (v := ?_) (a' := ?_) (bitsL 110 4194303) rfl rfl (any_of HT_.out (by kernel_rfl)) (fun _ _ _ h => h) (Or.inl ⟨by rfl, ?_⟩) ?_ ?_
  rotate_left
  · intro w'
    go_simp
    with_reducible rfl
  rotate_left
  · simp only [Act.put, List.setIfInBounds_toArray, List.set_cons_zero, List.set_cons_succ, i64_w, i32_w]
    rfl
  refine pure_ (i := 22) (N := some 52) (v := ?_) (a' := ?_) (bitsL 110 8388607) rfl rfl (any_of HT_.out (by kernel_rfl)) (fun _ _ _ h => h) (Or.inl ⟨by rfl, ?_⟩) ?_ ?_
  rotate_left
  · intro w'
    go_simp
    with_reducible rfl
  rotate_left
  · simp only [Act.put, List.setIfInBounds_toArray, List.set_cons_zero, List.set_cons_succ, i64_w, i32_w]
    rfl
  refine pure_ (i := 23) (N := some 53) (v := ?_) (a' := ?_) (bitsL 110 16777215) rfl rfl (any_of HT_.out (by kernel_rfl)) (fun _ _ _ h => h) (Or.inl ⟨by rfl, ?_⟩) ?_ ?_
  rotate_left
  · intro w'
    go_simp
    with_reducible rfl
  rotate_left
  · simp only [Act.put, List.setIfInBounds_toArray, List.set_cons_zero, List.set_cons_succ, i64_w, i32_w]
    rfl
  refine pure_ (i := 27) (N := some 57) (v := ?_) (a' := ?_) (bitsL 110 150994943) rfl rfl (any_of HT_.out (by kernel_rfl)) (fun _ _ _ h => h) (Or.inl ⟨by rfl, ?_⟩) ?_ ?_
  rotate_left
  · intro w'
    go_simp
    with_reducible rfl
  rotate_left
  · simp only [Act.put, List.setIfInBounds_toArray, List.set_cons_zero, List.set_cons_succ, i64_w, i32_w]
    rfl
  refine take_ (i := 24) (N := some 54) (v := ?_) (a' := ?_) (bitsL 110 167772159) rfl rfl (take_ofW HT_.out HW_.out (by kernel_rfl)) (fun _ _ _ h => h) (Or.inl ⟨by rfl, ?_⟩) hHeld ?_ ?_
  rotate_left
  · rintro w' ⟨h0, h1, h2, h3⟩
    go_simp
    with_reducible rfl
  rotate_left
  · simp only [Act.put, List.setIfInBounds_toArray, List.set_cons_zero, List.set_cons_succ, i64_w, i32_w]
    rfl
  refine take_ (i := 25) (N := some 55) (v := ?_) (a' := ?_) (bitsL 110 201326591) rfl rfl (take_ofW HT_.out HW_.out (by kernel_rfl)) (fun _ _ _ h => h) (Or.inl ⟨by rfl, ?_⟩) hHeld ?_ ?_
  rotate_left
  · rintro w' ⟨h0, h1, h2, h3⟩
    go_simp
    with_reducible rfl
  rotate_left
  · simp only [Act.put, List.setIfInBounds_toArray, List.set_cons_zero, List.set_cons_succ, i64_w, i32_w]
    rfl
  refine take_ (i := 28) (N := some 58) (v := ?_) (a' := ?_) (bitsL 110 469762047) rfl rfl (take_ofW HT_.out HW_.out (by kernel_rfl)) (fun _ _ _ h => h) (Or.inl ⟨by rfl, ?_⟩) hHeld ?_ ?_
  rotate_left
  · rintro w' ⟨h0, h1, h2, h3⟩
    go_simp
    with_reducible rfl
  rotate_left
  · simp only [Act.put, List.setIfInBounds_toArray, List.set_cons_zero, List.set_cons_succ, i64_w, i32_w]
    rfl
  refine take_ (i := 29) (N := some 59) (v := ?_) (a' := ?_) (bitsL 110 1006632959) rfl rfl (take_ofW HT_.out HW_.out (by kernel_rfl)) (fun _ _ _ h => h) (Or.inl ⟨by rfl, ?_⟩) hHeld ?_ ?_
  rotate_left
  · rintro w' ⟨h0, h1, h2, h3⟩
    go_simp
    with_reducible rfl
  rotate_left
  · simp only [Act.put, List.setIfInBounds_toArray, List.set_cons_zero, List.set_cons_succ, i64_w, i32_w]
    rfl
  refine one_ (i := 26) (N := some 56) (bitsL 110 1073741823) rfl rfl (one_of HT_.out (by kernel_rfl)) (by decide) (fun K hK => ?_)
  refine goes_ Try.func27 (by kernel_rfl) rfl #[.pointer (some ⟨w.heap.size + 1 + 1, 0, none⟩), .agg #[.int .i64 x.f0, .int .i64 x.f1], .agg #[.int .i64 y.f0, .int .i64 y.f1]] (by rfl) rfl rfl (by (try simp only [List.map_toArray, List.map_cons, List.map_nil]); first | done | rfl) ?_
  refine (span_Acc_Minus.calls 100 (w.heap.size + 1 + 1) s1 x.f0 x.f1 y.f0 y.f1 m1 m2 s2 w _ HH.out.is1 HH.out.bl gm.out).mono ?_
  rintro e w6 ⟨rfl, hI, hB, hK2⟩
  refine ⟨_, rfl, ?_⟩
  replace HH := Aside0.mk (HH.out.step1 hI hB hK2)
  clear hI hB hK2
  refine hK.out _ _ HH.out.xy (fun hHeld => ?_)
  clear hK K
  refine norm_ (a' := ?_) ?_ ?_
  rotate_left
  · show Act.put _ (some 56) _ = _
    simp only [Act.put, List.setIfInBounds_toArray, List.set_cons_zero, List.set_cons_succ, i64_w, i32_w]
    rfl
  refine one_ (i := 30) (N := some 60) (bitsL 110 2147483647) rfl rfl (one_of HT_.out (by kernel_rfl)) (by decide) (fun K hK => ?_)
  refine goes_ Try.func28 (by kernel_rfl) rfl #[.pointer (some ⟨w.heap.size + 1 + 1 + 1, 0, none⟩), .agg #[.int .i64 x.f0, .int .i64 x.f1], .agg #[.int .i64 y.f0, .int .i64 y.f1]] (by rfl) rfl rfl (by (try simp only [List.map_toArray, List.map_cons, List.map_nil]); first | done | rfl) ?_
  refine (picketref1_Acc_Minus.calls 100 (w.heap.size + 1 + 1 + 1) s1 x.f0 x.f1 y.f0 y.f1 m1 m2 s2 w _ HH.out.is2 HH.out.bl gn.out).mono ?_
  rintro e w7 ⟨rfl, hI, hB, hK2⟩
  refine ⟨_, rfl, ?_⟩
  replace HH := Aside0.mk (HH.out.step2 hI hB hK2)
  clear hI hB hK2
  refine hK.out _ _ HH.out.xy (fun hHeld => ?_)
  clear hK K
  refine norm_ (a' := ?_) ?_ ?_
  rotate_left
  · show Act.put _ (some 60) _ = _
    simp only [Act.put, List.setIfInBounds_toArray, List.set_cons_zero, List.set_cons_succ, i64_w, i32_w]
    rfl
  refine pure_ (i := 31) (N := some 61) (v := ?_) (a' := ?_) (bitsL 110 4294967295) rfl rfl (any_of HT_.out (by kernel_rfl)) (fun _ _ _ h => h) (Or.inl ⟨by rfl, ?_⟩) ?_ ?_
  rotate_left
  · intro w'
    go_simp
    with_reducible rfl
  rotate_left
  · simp only [Act.put, List.setIfInBounds_toArray, List.set_cons_zero, List.set_cons_succ, i64_w, i32_w]
    rfl
  refine pure_ (i := 32) (N := some 62) (v := ?_) (a' := ?_) (bitsL 110 8589934591) rfl rfl (any_of HT_.out (by kernel_rfl)) (fun _ _ _ h => h) (Or.inl ⟨by rfl, ?_⟩) ?_ ?_
  rotate_left
  · intro w'
    go_simp
    with_reducible rfl
  rotate_left
  · simp only [Act.put, List.setIfInBounds_toArray, List.set_cons_zero, List.set_cons_succ, i64_w, i32_w]
    rfl
  refine pure_ (i := 33) (N := some 63) (v := ?_) (a' := ?_) (bitsL 110 17179869183) rfl rfl (any_of HT_.out (by kernel_rfl)) (fun _ _ _ h => h) (Or.inl ⟨by rfl, ?_⟩) ?_ ?_
  rotate_left
  · intro w'
    go_simp
    with_reducible rfl
  rotate_left
  · simp only [Act.put, List.setIfInBounds_toArray, List.set_cons_zero, List.set_cons_succ, i64_w, i32_w]
    rfl
  refine pure_ (i := 34) (N := some 64) (v := ?_) (a' := ?_) (bitsL 110 34359738367) rfl rfl (any_of HT_.out (by kernel_rfl)) (fun _ _ _ h => h) (Or.inl ⟨by rfl, ?_⟩) ?_ ?_
  rotate_left
  · intro w'
    go_simp
    with_reducible rfl
  rotate_left
  · simp only [Act.put, List.setIfInBounds_toArray, List.set_cons_zero, List.set_cons_succ, i64_w, i32_w]
    rfl
  refine pure_ (i := 35) (N := some 65) (v := ?_) (a' := ?_) (bitsL 110 68719476735) rfl rfl (any_of HT_.out (by kernel_rfl)) (fun _ _ _ h => h) (Or.inl ⟨by rfl, ?_⟩) ?_ ?_
  rotate_left
  · intro w'
    go_simp
    with_reducible rfl
  rotate_left
  · simp only [Act.put, List.setIfInBounds_toArray, List.set_cons_zero, List.set_cons_succ, i64_w, i32_w]
    rfl
  refine pure_ (i := 36) (N := some 66) (v := ?_) (a' := ?_) (bitsL 110 137438953471) rfl rfl (any_of HT_.out (by kernel_rfl)) (fun _ _ _ h => h) (Or.inl ⟨by rfl, ?_⟩) ?_ ?_
  rotate_left
  · intro w'
    go_simp
    with_reducible rfl
  rotate_left
  · simp only [Act.put, List.setIfInBounds_toArray, List.set_cons_zero, List.set_cons_succ, i64_w, i32_w]
    rfl
  refine pure_ (i := 37) (N := some 67) (v := ?_) (a' := ?_) (bitsL 110 274877906943) rfl rfl (any_of HT_.out (by kernel_rfl)) (fun _ _ _ h => h) (Or.inl ⟨by rfl, ?_⟩) ?_ ?_
  rotate_left
  · intro w'
    go_simp
    with_reducible rfl
  rotate_left
  · simp only [Act.put, List.setIfInBounds_toArray, List.set_cons_zero, List.set_cons_succ, i64_w, i32_w]
    rfl
  refine pure_ (i := 39) (N := some 69) (v := ?_) (a' := ?_) (bitsL 110 824633720831) rfl rfl (any_of HT_.out (by kernel_rfl)) (fun _ _ _ h => h) (Or.inl ⟨by rfl, ?_⟩) ?_ ?_
  rotate_left
  · intro w'
    go_simp
    with_reducible rfl
  rotate_left
  · simp only [Act.put, List.setIfInBounds_toArray, List.set_cons_zero, List.set_cons_succ, i64_w, i32_w]
    rfl
  refine pure_ (i := 40) (N := some 70) (v := ?_) (a' := ?_) (bitsL 110 1924145348607) rfl rfl (any_of HT_.out (by kernel_rfl)) (fun _ _ _ h => h) (Or.inl ⟨by rfl, ?_⟩) ?_ ?_
  rotate_left
  · intro w'
    go_simp
    with_reducible rfl
  rotate_left
  · simp only [Act.put, List.setIfInBounds_toArray, List.set_cons_zero, List.set_cons_succ, i64_w, i32_w]
    rfl
  refine pure_ (i := 41) (N := some 71) (v := ?_) (a' := ?_) (bitsL 110 4123168604159) rfl rfl (any_of HT_.out (by kernel_rfl)) (fun _ _ _ h => h) (Or.inl ⟨by rfl, ?_⟩) ?_ ?_
  rotate_left
  · intro w'
    go_simp
    with_reducible rfl
  rotate_left
  · simp only [Act.put, List.setIfInBounds_toArray, List.set_cons_zero, List.set_cons_succ, i64_w, i32_w]
    rfl
  obtain ⟨-, -, -, -, q4, q5⟩ := HH.out.cells
  refine join_ (σ := Unit) 67 (bitsL 110 8796093022207) (fun _ => [(68, .bool s2), (72, .bool s2)]) (fun _ w' => LawW w x y s2 s2 l g cap w') ?_ ?_
  rotate_left
  · intro hCont
    refine two_ (i := 38) (j := 42) (Ni := some 68) (Nj := some 72) (bitsL 110 4398046511103) (bitsL 110 8521215115263) rfl rfl rfl rfl (two_of HT_.out (by kernel_rfl)) (by decide) (by decide) (fun K hK => ?_) (fun K hK => ?_)
    · skip
      refine value_ (w1 := w7) (v := .bool s2) (by rfl) rfl (by go_simp) ?_
      refine hK.out _ _ HH.out.xy (fun hHeld => ?_)
      clear hK K
      refine norm_ (a' := ?_) ?_ ?_
      rotate_left
      · show Act.put _ (some 68) _ = _
        simp only [Act.put, List.setIfInBounds_toArray, List.set_cons_zero, List.set_cons_succ, i64_w, i32_w]
        rfl
      refine one_ (i := 42) (N := some 72) (bitsL 110 8796093022207) rfl rfl (one_of HT_.out (by kernel_rfl)) (by decide) (fun K hK => ?_)
      refine value_ (w1 := w7) (v := .bool s2) (by rfl) rfl (by go_simp) ?_
      refine hK.out _ _ HH.out.xy (fun hHeld => ?_)
      clear hK K
      refine norm_ (a' := ?_) ?_ ?_
      rotate_left
      · show Act.put _ (some 72) _ = _
        simp only [Act.put, List.setIfInBounds_toArray, List.set_cons_zero, List.set_cons_succ, i64_w, i32_w]
        rfl
      exact norm_ (by simp only [putAll, Act.put, List.setIfInBounds_toArray, List.set_cons_zero, List.set_cons_succ]) (hCont () _ HH.out)
    · skip
      refine value_ (w1 := w7) (v := .bool s2) (by rfl) rfl (by go_simp) ?_
      refine hK.out _ _ HH.out.xy (fun hHeld => ?_)
      clear hK K
      refine norm_ (a' := ?_) ?_ ?_
      rotate_left
      · show Act.put _ (some 72) _ = _
        simp only [Act.put, List.setIfInBounds_toArray, List.set_cons_zero, List.set_cons_succ, i64_w, i32_w]
        rfl
      refine one_ (i := 38) (N := some 68) (bitsL 110 8796093022207) rfl rfl (one_of HT_.out (by kernel_rfl)) (by decide) (fun K hK => ?_)
      refine value_ (w1 := w7) (v := .bool s2) (by rfl) rfl (by go_simp) ?_
      refine hK.out _ _ HH.out.xy (fun hHeld => ?_)
      clear hK K
      refine norm_ (a' := ?_) ?_ ?_
      rotate_left
      · show Act.put _ (some 68) _ = _
        simp only [Act.put, List.setIfInBounds_toArray, List.set_cons_zero, List.set_cons_succ, i64_w, i32_w]
        rfl
      exact norm_ (by simp only [putAll, Act.put, List.setIfInBounds_toArray, List.set_cons_zero, List.set_cons_succ]) (hCont () _ HH.out)
  rintro _ w8 HH_
  clear HH q4 q5 hHeld
  have HH := Aside0.mk HH_
  clear HH_
  have hHeld := HH.out.xy
  refine norm_ (a' := ?_) ?_ ?_
  rotate_left
  · simp only [putAll, Act.put, List.setIfInBounds_toArray, List.set_cons_zero, List.set_cons_succ]
    rfl
  refine pure_ (i := 43) (N := some 73) (v := ?_) (a' := ?_) (bitsL 110 17592186044415) rfl rfl (any_of HT_.out (by kernel_rfl)) (fun _ _ _ h => h) (Or.inl ⟨by rfl, ?_⟩) ?_ ?_
  rotate_left
  · intro w'
    go_simp
    with_reducible rfl
  rotate_left
  · simp only [Act.put, List.setIfInBounds_toArray, List.set_cons_zero, List.set_cons_succ, i64_w, i32_w]
    rfl
  refine pure_ (i := 44) (N := some 74) (v := ?_) (a' := ?_) (bitsL 110 35184372088831) rfl rfl (any_of HT_.out (by kernel_rfl)) (fun _ _ _ h => h) (Or.inl ⟨by rfl, ?_⟩) ?_ ?_
  rotate_left
  · intro w'
    go_simp
    with_reducible rfl
  rotate_left
  · simp only [Act.put, List.setIfInBounds_toArray, List.set_cons_zero, List.set_cons_succ, i64_w, i32_w]
    rfl
  refine pure_ (i := 45) (N := some 75) (v := ?_) (a' := ?_) (bitsL 110 70368744177663) rfl rfl (any_of HT_.out (by kernel_rfl)) (fun _ _ _ h => h) (Or.inl ⟨by rfl, ?_⟩) ?_ ?_
  rotate_left
  · intro w'
    go_simp
    with_reducible rfl
  rotate_left
  · simp only [Act.put, List.setIfInBounds_toArray, List.set_cons_zero, List.set_cons_succ, i64_w, i32_w]
    rfl
  refine pure_ (i := 46) (N := some 76) (v := ?_) (a' := ?_) (bitsL 110 140737488355327) rfl rfl (any_of HT_.out (by kernel_rfl)) (fun _ _ _ h => h) (Or.inl ⟨by rfl, ?_⟩) ?_ ?_
  rotate_left
  · intro w'
    go_simp
    with_reducible rfl
  rotate_left
  · simp only [Act.put, List.setIfInBounds_toArray, List.set_cons_zero, List.set_cons_succ, i64_w, i32_w]
    rfl
  refine pure_ (i := 48) (N := some 78) (v := ?_) (a' := ?_) (bitsL 110 422212465065983) rfl rfl (any_of HT_.out (by kernel_rfl)) (fun _ _ _ h => h) (Or.inl ⟨by rfl, ?_⟩) ?_ ?_
  rotate_left
  · intro w'
    go_simp
    with_reducible rfl
  rotate_left
  · simp only [Act.put, List.setIfInBounds_toArray, List.set_cons_zero, List.set_cons_succ, i64_w, i32_w]
    rfl
  refine pure_ (i := 50) (N := some 80) (v := ?_) (a' := ?_) (bitsL 110 1548112371908607) rfl rfl (any_of HT_.out (by kernel_rfl)) (fun _ _ _ h => h) (Or.inl ⟨by rfl, ?_⟩) ?_ ?_
  rotate_left
  · intro w'
    go_simp
    with_reducible rfl
  rotate_left
  · simp only [Act.put, List.setIfInBounds_toArray, List.set_cons_zero, List.set_cons_succ, i64_w, i32_w]
    rfl
  refine pure_ (i := 52) (N := some 82) (v := ?_) (a' := ?_) (bitsL 110 6051711999279103) rfl rfl (any_of HT_.out (by kernel_rfl)) (fun _ _ _ h => h) (Or.inl ⟨by rfl, ?_⟩) ?_ ?_
  rotate_left
  · intro w'
    go_simp
    with_reducible rfl
  rotate_left
  · simp only [Act.put, List.setIfInBounds_toArray, List.set_cons_zero, List.set_cons_succ, i64_w, i32_w]
    rfl
  refine take_ (i := 47) (N := some 77) (v := ?_) (a' := ?_) (bitsL 110 6192449487634431) rfl rfl (take_ofW HT_.out HW_.out (by kernel_rfl)) (fun _ _ _ h => h) (Or.inl ⟨by rfl, ?_⟩) hHeld ?_ ?_
  rotate_left
  · rintro w' ⟨h0, h1, h2, h3⟩
    go_simp
    with_reducible rfl
  rotate_left
  · simp only [Act.put, List.setIfInBounds_toArray, List.set_cons_zero, List.set_cons_succ, i64_w, i32_w]
    rfl
  refine take_ (i := 51) (N := some 81) (v := ?_) (a' := ?_) (bitsL 110 8444249301319679) rfl rfl (take_ofW HT_.out HW_.out (by kernel_rfl)) (fun _ _ _ h => h) (Or.inl ⟨by rfl, ?_⟩) hHeld ?_ ?_
  rotate_left
  · rintro w' ⟨h0, h1, h2, h3⟩
    go_simp
    with_reducible rfl
  rotate_left
  · simp only [Act.put, List.setIfInBounds_toArray, List.set_cons_zero, List.set_cons_succ, i64_w, i32_w]
    rfl
  refine one_ (i := 49) (N := some 79) (bitsL 110 9007199254740991) rfl rfl (one_of HT_.out (by kernel_rfl)) (by decide) (fun K hK => ?_)
  refine goes_ Try.func29 (by kernel_rfl) rfl #[.pointer (some ⟨w.heap.size + 1 + 1, 0, none⟩), .agg #[.int .i64 x.f0, .int .i64 x.f1], .int .i64 c] (by rfl) rfl rfl (by (try simp only [List.map_toArray, List.map_cons, List.map_nil]); first | done | rfl) ?_
  refine (span_Acc_Times.calls 100 (w.heap.size + 1 + 1) s2 x.f0 x.f1 c t1 t2 s3 w _ HH.out.is1 HH.out.bl ft.out).mono ?_
  rintro e w9 ⟨rfl, hI, hB, hK2⟩
  refine ⟨_, rfl, ?_⟩
  replace HH := Aside0.mk (HH.out.step1 hI hB hK2)
  clear hI hB hK2
  refine hK.out _ _ HH.out.xy (fun hHeld => ?_)
  clear hK K
  refine norm_ (a' := ?_) ?_ ?_
  rotate_left
  · show Act.put _ (some 79) _ = _
    simp only [Act.put, List.setIfInBounds_toArray, List.set_cons_zero, List.set_cons_succ, i64_w, i32_w]
    rfl
  refine one_ (i := 53) (N := some 83) (bitsL 110 18014398509481983) rfl rfl (one_of HT_.out (by kernel_rfl)) (by decide) (fun K hK => ?_)
  refine goes_ Try.func30 (by kernel_rfl) rfl #[.pointer (some ⟨w.heap.size + 1 + 1 + 1, 0, none⟩), .agg #[.int .i64 x.f0, .int .i64 x.f1], .int .i64 c] (by rfl) rfl rfl (by (try simp only [List.map_toArray, List.map_cons, List.map_nil]); first | done | rfl) ?_
  refine (picketref1_Acc_Times.calls 100 (w.heap.size + 1 + 1 + 1) s2 x.f0 x.f1 c t1 t2 s3 w _ HH.out.is2 HH.out.bl fu.out).mono ?_
  rintro e w10 ⟨rfl, hI, hB, hK2⟩
  refine ⟨_, rfl, ?_⟩
  replace HH := Aside0.mk (HH.out.step2 hI hB hK2)
  clear hI hB hK2
  refine hK.out _ _ HH.out.xy (fun hHeld => ?_)
  clear hK K
  refine norm_ (a' := ?_) ?_ ?_
  rotate_left
  · show Act.put _ (some 83) _ = _
    simp only [Act.put, List.setIfInBounds_toArray, List.set_cons_zero, List.set_cons_succ, i64_w, i32_w]
    rfl
  refine pure_ (i := 54) (N := some 84) (v := ?_) (a' := ?_) (bitsL 110 36028797018963967) rfl rfl (any_of HT_.out (by kernel_rfl)) (fun _ _ _ h => h) (Or.inl ⟨by rfl, ?_⟩) ?_ ?_
  rotate_left
  · intro w'
    go_simp
    with_reducible rfl
  rotate_left
  · simp only [Act.put, List.setIfInBounds_toArray, List.set_cons_zero, List.set_cons_succ, i64_w, i32_w]
    rfl
  refine pure_ (i := 55) (N := some 85) (v := ?_) (a' := ?_) (bitsL 110 72057594037927935) rfl rfl (any_of HT_.out (by kernel_rfl)) (fun _ _ _ h => h) (Or.inl ⟨by rfl, ?_⟩) ?_ ?_
  rotate_left
  · intro w'
    go_simp
    with_reducible rfl
  rotate_left
  · simp only [Act.put, List.setIfInBounds_toArray, List.set_cons_zero, List.set_cons_succ, i64_w, i32_w]
    rfl
  refine pure_ (i := 56) (N := some 86) (v := ?_) (a' := ?_) (bitsL 110 144115188075855871) rfl rfl (any_of HT_.out (by kernel_rfl)) (fun _ _ _ h => h) (Or.inl ⟨by rfl, ?_⟩) ?_ ?_
  rotate_left
  · intro w'
    go_simp
    with_reducible rfl
  rotate_left
  · simp only [Act.put, List.setIfInBounds_toArray, List.set_cons_zero, List.set_cons_succ, i64_w, i32_w]
    rfl
  refine pure_ (i := 57) (N := some 87) (v := ?_) (a' := ?_) (bitsL 110 288230376151711743) rfl rfl (any_of HT_.out (by kernel_rfl)) (fun _ _ _ h => h) (Or.inl ⟨by rfl, ?_⟩) ?_ ?_
  rotate_left
  · intro w'
    go_simp
    with_reducible rfl
  rotate_left
  · simp only [Act.put, List.setIfInBounds_toArray, List.set_cons_zero, List.set_cons_succ, i64_w, i32_w]
    rfl
  refine pure_ (i := 58) (N := some 88) (v := ?_) (a' := ?_) (bitsL 110 576460752303423487) rfl rfl (any_of HT_.out (by kernel_rfl)) (fun _ _ _ h => h) (Or.inl ⟨by rfl, ?_⟩) ?_ ?_
  rotate_left
  · intro w'
    go_simp
    with_reducible rfl
  rotate_left
  · simp only [Act.put, List.setIfInBounds_toArray, List.set_cons_zero, List.set_cons_succ, i64_w, i32_w]
    rfl
  refine pure_ (i := 59) (N := some 89) (v := ?_) (a' := ?_) (bitsL 110 1152921504606846975) rfl rfl (any_of HT_.out (by kernel_rfl)) (fun _ _ _ h => h) (Or.inl ⟨by rfl, ?_⟩) ?_ ?_
  rotate_left
  · intro w'
    go_simp
    with_reducible rfl
  rotate_left
  · simp only [Act.put, List.setIfInBounds_toArray, List.set_cons_zero, List.set_cons_succ, i64_w, i32_w]
    rfl
  refine pure_ (i := 60) (N := some 90) (v := ?_) (a' := ?_) (bitsL 110 2305843009213693951) rfl rfl (any_of HT_.out (by kernel_rfl)) (fun _ _ _ h => h) (Or.inl ⟨by rfl, ?_⟩) ?_ ?_
  rotate_left
  · intro w'
    go_simp
    with_reducible rfl
  rotate_left
  · simp only [Act.put, List.setIfInBounds_toArray, List.set_cons_zero, List.set_cons_succ, i64_w, i32_w]
    rfl
  refine pure_ (i := 62) (N := some 92) (v := ?_) (a' := ?_) (bitsL 110 6917529027641081855) rfl rfl (any_of HT_.out (by kernel_rfl)) (fun _ _ _ h => h) (Or.inl ⟨by rfl, ?_⟩) ?_ ?_
  rotate_left
  · intro w'
    go_simp
    with_reducible rfl
  rotate_left
  · simp only [Act.put, List.setIfInBounds_toArray, List.set_cons_zero, List.set_cons_succ, i64_w, i32_w]
    rfl
  refine pure_ (i := 63) (N := some 93) (v := ?_) (a' := ?_) (bitsL 110 16140901064495857663) rfl rfl (any_of HT_.out (by kernel_rfl)) (fun _ _ _ h => h) (Or.inl ⟨by rfl, ?_⟩) ?_ ?_
  rotate_left
  · intro w'
    go_simp
    with_reducible rfl
  rotate_left
  · simp only [Act.put, List.setIfInBounds_toArray, List.set_cons_zero, List.set_cons_succ, i64_w, i32_w]
    rfl
  refine pure_ (i := 64) (N := some 94) (v := ?_) (a' := ?_) (bitsL 110 34587645138205409279) rfl rfl (any_of HT_.out (by kernel_rfl)) (fun _ _ _ h => h) (Or.inl ⟨by rfl, ?_⟩) ?_ ?_
  rotate_left
  · intro w'
    go_simp
    with_reducible rfl
  rotate_left
  · simp only [Act.put, List.setIfInBounds_toArray, List.set_cons_zero, List.set_cons_succ, i64_w, i32_w]
    rfl
  obtain ⟨-, -, -, -, q4, q5⟩ := HH.out.cells
  refine join_ (σ := Unit) 44 (bitsL 110 73786976294838206463) (fun _ => [(91, .bool s3), (95, .bool s3)]) (fun _ w' => LawW w x y s3 s3 l g cap w') ?_ ?_
  rotate_left
  · intro hCont
    refine two_ (i := 61) (j := 65) (Ni := some 91) (Nj := some 95) (bitsL 110 36893488147419103231) (bitsL 110 71481133285624512511) rfl rfl rfl rfl (two_of HT_.out (by kernel_rfl)) (by decide) (by decide) (fun K hK => ?_) (fun K hK => ?_)
    · skip
      refine value_ (w1 := w10) (v := .bool s3) (by rfl) rfl (by go_simp) ?_
      refine hK.out _ _ HH.out.xy (fun hHeld => ?_)
      clear hK K
      refine norm_ (a' := ?_) ?_ ?_
      rotate_left
      · show Act.put _ (some 91) _ = _
        simp only [Act.put, List.setIfInBounds_toArray, List.set_cons_zero, List.set_cons_succ, i64_w, i32_w]
        rfl
      refine one_ (i := 65) (N := some 95) (bitsL 110 73786976294838206463) rfl rfl (one_of HT_.out (by kernel_rfl)) (by decide) (fun K hK => ?_)
      refine value_ (w1 := w10) (v := .bool s3) (by rfl) rfl (by go_simp) ?_
      refine hK.out _ _ HH.out.xy (fun hHeld => ?_)
      clear hK K
      refine norm_ (a' := ?_) ?_ ?_
      rotate_left
      · show Act.put _ (some 95) _ = _
        simp only [Act.put, List.setIfInBounds_toArray, List.set_cons_zero, List.set_cons_succ, i64_w, i32_w]
        rfl
      exact norm_ (by simp only [putAll, Act.put, List.setIfInBounds_toArray, List.set_cons_zero, List.set_cons_succ]) (hCont () _ HH.out)
    · skip
      refine value_ (w1 := w10) (v := .bool s3) (by rfl) rfl (by go_simp) ?_
      refine hK.out _ _ HH.out.xy (fun hHeld => ?_)
      clear hK K
      refine norm_ (a' := ?_) ?_ ?_
      rotate_left
      · show Act.put _ (some 95) _ = _
        simp only [Act.put, List.setIfInBounds_toArray, List.set_cons_zero, List.set_cons_succ, i64_w, i32_w]
        rfl
      refine one_ (i := 61) (N := some 91) (bitsL 110 73786976294838206463) rfl rfl (one_of HT_.out (by kernel_rfl)) (by decide) (fun K hK => ?_)
      refine value_ (w1 := w10) (v := .bool s3) (by rfl) rfl (by go_simp) ?_
      refine hK.out _ _ HH.out.xy (fun hHeld => ?_)
      clear hK K
      refine norm_ (a' := ?_) ?_ ?_
      rotate_left
      · show Act.put _ (some 91) _ = _
        simp only [Act.put, List.setIfInBounds_toArray, List.set_cons_zero, List.set_cons_succ, i64_w, i32_w]
        rfl
      exact norm_ (by simp only [putAll, Act.put, List.setIfInBounds_toArray, List.set_cons_zero, List.set_cons_succ]) (hCont () _ HH.out)
  rintro _ w11 HH_
  clear HH q4 q5 hHeld
  have HH := Aside0.mk HH_
  clear HH_
  have hHeld := HH.out.xy
  refine norm_ (a' := ?_) ?_ ?_
  rotate_left
  · simp only [putAll, Act.put, List.setIfInBounds_toArray, List.set_cons_zero, List.set_cons_succ]
    rfl
  refine pure_ (i := 66) (N := some 96) (v := ?_) (a' := ?_) (bitsL 110 147573952589676412927) rfl rfl (any_of HT_.out (by kernel_rfl)) (fun _ _ _ h => h) (Or.inl ⟨by rfl, ?_⟩) ?_ ?_
  rotate_left
  · intro w'
    go_simp
    with_reducible rfl
  rotate_left
  · simp only [Act.put, List.setIfInBounds_toArray, List.set_cons_zero, List.set_cons_succ, i64_w, i32_w]
    rfl
  refine pure_ (i := 67) (N := some 97) (v := ?_) (a' := ?_) (bitsL 110 295147905179352825855) rfl rfl (any_of HT_.out (by kernel_rfl)) (fun _ _ _ h => h) (Or.inl ⟨by rfl, ?_⟩) ?_ ?_
  rotate_left
  · intro w'
    go_simp
    with_reducible rfl
  rotate_left
  · simp only [Act.put, List.setIfInBounds_toArray, List.set_cons_zero, List.set_cons_succ, i64_w, i32_w]
    rfl
  refine pure_ (i := 68) (N := some 98) (v := ?_) (a' := ?_) (bitsL 110 590295810358705651711) rfl rfl (any_of HT_.out (by kernel_rfl)) (fun _ _ _ h => h) (Or.inl ⟨by rfl, ?_⟩) ?_ ?_
  rotate_left
  · intro w'
    go_simp
    with_reducible rfl
  rotate_left
  · simp only [Act.put, List.setIfInBounds_toArray, List.set_cons_zero, List.set_cons_succ, i64_w, i32_w]
    rfl
  refine pure_ (i := 69) (N := some 99) (v := ?_) (a' := ?_) (bitsL 110 1180591620717411303423) rfl rfl (any_of HT_.out (by kernel_rfl)) (fun _ _ _ h => h) (Or.inl ⟨by rfl, ?_⟩) ?_ ?_
  rotate_left
  · intro w'
    go_simp
    with_reducible rfl
  rotate_left
  · simp only [Act.put, List.setIfInBounds_toArray, List.set_cons_zero, List.set_cons_succ, i64_w, i32_w]
    rfl
  refine pure_ (i := 73) (N := some 103) (v := ?_) (a' := ?_) (bitsL 110 10625324586456701730815) rfl rfl (any_of HT_.out (by kernel_rfl)) (fun _ _ _ h => h) (Or.inl ⟨by rfl, ?_⟩) ?_ ?_
  rotate_left
  · intro w'
    go_simp
    with_reducible rfl
  rotate_left
  · simp only [Act.put, List.setIfInBounds_toArray, List.set_cons_zero, List.set_cons_succ, i64_w, i32_w]
    rfl
  refine take_ (i := 70) (N := some 100) (v := ?_) (a' := ?_) (bitsL 110 11805916207174113034239) rfl rfl (take_ofW HT_.out HW_.out (by kernel_rfl)) (fun _ _ _ h => h) (Or.inl ⟨by rfl, ?_⟩) hHeld ?_ ?_
  rotate_left
  · rintro w' ⟨h0, h1, h2, h3⟩
    go_simp
    with_reducible rfl
  rotate_left
  · simp only [Act.put, List.setIfInBounds_toArray, List.set_cons_zero, List.set_cons_succ, i64_w, i32_w]
    rfl
  refine take_ (i := 71) (N := some 101) (v := ?_) (a' := ?_) (bitsL 110 14167099448608935641087) rfl rfl (take_ofW HT_.out HW_.out (by kernel_rfl)) (fun _ _ _ h => h) (Or.inl ⟨by rfl, ?_⟩) hHeld ?_ ?_
  rotate_left
  · rintro w' ⟨h0, h1, h2, h3⟩
    go_simp
    with_reducible rfl
  rotate_left
  · simp only [Act.put, List.setIfInBounds_toArray, List.set_cons_zero, List.set_cons_succ, i64_w, i32_w]
    rfl
  refine take_ (i := 74) (N := some 104) (v := ?_) (a' := ?_) (bitsL 110 33056565380087516495871) rfl rfl (take_ofW HT_.out HW_.out (by kernel_rfl)) (fun _ _ _ h => h) (Or.inl ⟨by rfl, ?_⟩) hHeld ?_ ?_
  rotate_left
  · rintro w' ⟨h0, h1, h2, h3⟩
    go_simp
    with_reducible rfl
  rotate_left
  · simp only [Act.put, List.setIfInBounds_toArray, List.set_cons_zero, List.set_cons_succ, i64_w, i32_w]
    rfl
  refine take_ (i := 75) (N := some 105) (v := ?_) (a' := ?_) (bitsL 110 70835497243044678205439) rfl rfl (take_ofW HT_.out HW_.out (by kernel_rfl)) (fun _ _ _ h => h) (Or.inl ⟨by rfl, ?_⟩) hHeld ?_ ?_
  rotate_left
  · rintro w' ⟨h0, h1, h2, h3⟩
    go_simp
    with_reducible rfl
  rotate_left
  · simp only [Act.put, List.setIfInBounds_toArray, List.set_cons_zero, List.set_cons_succ, i64_w, i32_w]
    rfl
  refine one_ (i := 72) (N := some 102) (bitsL 110 75557863725914323419135) rfl rfl (one_of HT_.out (by kernel_rfl)) (by decide) (fun K hK => ?_)
  refine goes_ Try.func31 (by kernel_rfl) rfl #[.pointer (some ⟨w.heap.size + 1 + 1, 0, none⟩), .agg #[.int .i64 x.f0, .int .i64 x.f1], .agg #[.int .i64 y.f0, .int .i64 y.f1]] (by rfl) rfl rfl (by (try simp only [List.map_toArray, List.map_cons, List.map_nil]); first | done | rfl) ?_
  refine (span_Acc_Cross.calls 100 (w.heap.size + 1 + 1) s3 x.f0 x.f1 y.f0 y.f1 c1 c2 s4 w _ HH.out.is1 HH.out.bl fc.out).mono ?_
  rintro e w12 ⟨rfl, hI, hB, hK2⟩
  refine ⟨_, rfl, ?_⟩
  replace HH := Aside0.mk (HH.out.step1 hI hB hK2)
  clear hI hB hK2
  refine hK.out _ _ HH.out.xy (fun hHeld => ?_)
  clear hK K
  refine norm_ (a' := ?_) ?_ ?_
  rotate_left
  · show Act.put _ (some 102) _ = _
    simp only [Act.put, List.setIfInBounds_toArray, List.set_cons_zero, List.set_cons_succ, i64_w, i32_w]
    rfl
  refine one_ (i := 76) (N := some 106) (bitsL 110 151115727451828646838271) rfl rfl (one_of HT_.out (by kernel_rfl)) (by decide) (fun K hK => ?_)
  refine goes_ Try.func32 (by kernel_rfl) rfl #[.pointer (some ⟨w.heap.size + 1 + 1 + 1, 0, none⟩), .agg #[.int .i64 x.f0, .int .i64 x.f1], .agg #[.int .i64 y.f0, .int .i64 y.f1]] (by rfl) rfl rfl (by (try simp only [List.map_toArray, List.map_cons, List.map_nil]); first | done | rfl) ?_
  refine (picketref1_Acc_Cross.calls 100 (w.heap.size + 1 + 1 + 1) s3 x.f0 x.f1 y.f0 y.f1 c1 c2 s4 w _ HH.out.is2 HH.out.bl fd.out).mono ?_
  rintro e w13 ⟨rfl, hI, hB, hK2⟩
  refine ⟨_, rfl, ?_⟩
  replace HH := Aside0.mk (HH.out.step2 hI hB hK2)
  clear hI hB hK2
  refine hK.out _ _ HH.out.xy (fun hHeld => ?_)
  clear hK K
  refine norm_ (a' := ?_) ?_ ?_
  rotate_left
  · show Act.put _ (some 106) _ = _
    simp only [Act.put, List.setIfInBounds_toArray, List.set_cons_zero, List.set_cons_succ, i64_w, i32_w]
    rfl
  refine pure_ (i := 77) (N := some 107) (v := ?_) (a' := ?_) (bitsL 110 302231454903657293676543) rfl rfl (any_of HT_.out (by kernel_rfl)) (fun _ _ _ h => h) (Or.inl ⟨by rfl, ?_⟩) ?_ ?_
  rotate_left
  · intro w'
    go_simp
    with_reducible rfl
  rotate_left
  · simp only [Act.put, List.setIfInBounds_toArray, List.set_cons_zero, List.set_cons_succ, i64_w, i32_w]
    rfl
  refine pure_ (i := 78) (N := some 108) (v := ?_) (a' := ?_) (bitsL 110 604462909807314587353087) rfl rfl (any_of HT_.out (by kernel_rfl)) (fun _ _ _ h => h) (Or.inl ⟨by rfl, ?_⟩) ?_ ?_
  rotate_left
  · intro w'
    go_simp
    with_reducible rfl
  rotate_left
  · simp only [Act.put, List.setIfInBounds_toArray, List.set_cons_zero, List.set_cons_succ, i64_w, i32_w]
    rfl
  refine pure_ (i := 79) (N := some 109) (v := ?_) (a' := ?_) (bitsL 110 1208925819614629174706175) rfl rfl (any_of HT_.out (by kernel_rfl)) (fun _ _ _ h => h) (Or.inl ⟨by rfl, ?_⟩) ?_ ?_
  rotate_left
  · intro w'
    go_simp
    with_reducible rfl
  rotate_left
  · simp only [Act.put, List.setIfInBounds_toArray, List.set_cons_zero, List.set_cons_succ, i64_w, i32_w]
    rfl
  refine pure_ (i := 80) (N := some 110) (v := ?_) (a' := ?_) (bitsL 110 2417851639229258349412351) rfl rfl (any_of HT_.out (by kernel_rfl)) (fun _ _ _ h => h) (Or.inl ⟨by rfl, ?_⟩) ?_ ?_
  rotate_left
  · intro w'
    go_simp
    with_reducible rfl
  rotate_left
  · simp only [Act.put, List.setIfInBounds_toArray, List.set_cons_zero, List.set_cons_succ, i64_w, i32_w]
    rfl
  refine pure_ (i := 81) (N := some 111) (v := ?_) (a' := ?_) (bitsL 110 4835703278458516698824703) rfl rfl (any_of HT_.out (by kernel_rfl)) (fun _ _ _ h => h) (Or.inl ⟨by rfl, ?_⟩) ?_ ?_
  rotate_left
  · intro w'
    go_simp
    with_reducible rfl
  rotate_left
  · simp only [Act.put, List.setIfInBounds_toArray, List.set_cons_zero, List.set_cons_succ, i64_w, i32_w]
    rfl
  refine pure_ (i := 82) (N := some 112) (v := ?_) (a' := ?_) (bitsL 110 9671406556917033397649407) rfl rfl (any_of HT_.out (by kernel_rfl)) (fun _ _ _ h => h) (Or.inl ⟨by rfl, ?_⟩) ?_ ?_
  rotate_left
  · intro w'
    go_simp
    with_reducible rfl
  rotate_left
  · simp only [Act.put, List.setIfInBounds_toArray, List.set_cons_zero, List.set_cons_succ, i64_w, i32_w]
    rfl
  refine pure_ (i := 83) (N := some 113) (v := ?_) (a' := ?_) (bitsL 110 19342813113834066795298815) rfl rfl (any_of HT_.out (by kernel_rfl)) (fun _ _ _ h => h) (Or.inl ⟨by rfl, ?_⟩) ?_ ?_
  rotate_left
  · intro w'
    go_simp
    with_reducible rfl
  rotate_left
  · simp only [Act.put, List.setIfInBounds_toArray, List.set_cons_zero, List.set_cons_succ, i64_w, i32_w]
    rfl
  refine pure_ (i := 85) (N := some 115) (v := ?_) (a' := ?_) (bitsL 110 58028439341502200385896447) rfl rfl (any_of HT_.out (by kernel_rfl)) (fun _ _ _ h => h) (Or.inl ⟨by rfl, ?_⟩) ?_ ?_
  rotate_left
  · intro w'
    go_simp
    with_reducible rfl
  rotate_left
  · simp only [Act.put, List.setIfInBounds_toArray, List.set_cons_zero, List.set_cons_succ, i64_w, i32_w]
    rfl
  refine pure_ (i := 86) (N := some 116) (v := ?_) (a' := ?_) (bitsL 110 135399691796838467567091711) rfl rfl (any_of HT_.out (by kernel_rfl)) (fun _ _ _ h => h) (Or.inl ⟨by rfl, ?_⟩) ?_ ?_
  rotate_left
  · intro w'
    go_simp
    with_reducible rfl
  rotate_left
  · simp only [Act.put, List.setIfInBounds_toArray, List.set_cons_zero, List.set_cons_succ, i64_w, i32_w]
    rfl
  refine pure_ (i := 87) (N := some 117) (v := ?_) (a' := ?_) (bitsL 110 290142196707511001929482239) rfl rfl (any_of HT_.out (by kernel_rfl)) (fun _ _ _ h => h) (Or.inl ⟨by rfl, ?_⟩) ?_ ?_
  rotate_left
  · intro w'
    go_simp
    with_reducible rfl
  rotate_left
  · simp only [Act.put, List.setIfInBounds_toArray, List.set_cons_zero, List.set_cons_succ, i64_w, i32_w]
    rfl
  obtain ⟨-, -, -, -, q4, q5⟩ := HH.out.cells
  refine join_ (σ := Unit) 21 (bitsL 110 618970019642690137449562111) (fun _ => [(114, .bool s4), (118, .bool s4)]) (fun _ w' => LawW w x y s4 s4 l g cap w') ?_ ?_
  rotate_left
  · intro hCont
    refine two_ (i := 84) (j := 88) (Ni := some 114) (Nj := some 118) (bitsL 110 309485009821345068724781055) (bitsL 110 599627206528856070654263295) rfl rfl rfl rfl (two_of HT_.out (by kernel_rfl)) (by decide) (by decide) (fun K hK => ?_) (fun K hK => ?_)
    · skip
      refine value_ (w1 := w13) (v := .bool s4) (by rfl) rfl (by go_simp) ?_
      refine hK.out _ _ HH.out.xy (fun hHeld => ?_)
      clear hK K
      refine norm_ (a' := ?_) ?_ ?_
      rotate_left
      · show Act.put _ (some 114) _ = _
        simp only [Act.put, List.setIfInBounds_toArray, List.set_cons_zero, List.set_cons_succ, i64_w, i32_w]
        rfl
      refine one_ (i := 88) (N := some 118) (bitsL 110 618970019642690137449562111) rfl rfl (one_of HT_.out (by kernel_rfl)) (by decide) (fun K hK => ?_)
      refine value_ (w1 := w13) (v := .bool s4) (by rfl) rfl (by go_simp) ?_
      refine hK.out _ _ HH.out.xy (fun hHeld => ?_)
      clear hK K
      refine norm_ (a' := ?_) ?_ ?_
      rotate_left
      · show Act.put _ (some 118) _ = _
        simp only [Act.put, List.setIfInBounds_toArray, List.set_cons_zero, List.set_cons_succ, i64_w, i32_w]
        rfl
      exact norm_ (by simp only [putAll, Act.put, List.setIfInBounds_toArray, List.set_cons_zero, List.set_cons_succ]) (hCont () _ HH.out)
    · skip
      refine value_ (w1 := w13) (v := .bool s4) (by rfl) rfl (by go_simp) ?_
      refine hK.out _ _ HH.out.xy (fun hHeld => ?_)
      clear hK K
      refine norm_ (a' := ?_) ?_ ?_
      rotate_left
      · show Act.put _ (some 118) _ = _
        simp only [Act.put, List.setIfInBounds_toArray, List.set_cons_zero, List.set_cons_succ, i64_w, i32_w]
        rfl
      refine one_ (i := 84) (N := some 114) (bitsL 110 618970019642690137449562111) rfl rfl (one_of HT_.out (by kernel_rfl)) (by decide) (fun K hK => ?_)
      refine value_ (w1 := w13) (v := .bool s4) (by rfl) rfl (by go_simp) ?_
      refine hK.out _ _ HH.out.xy (fun hHeld => ?_)
      clear hK K
      refine norm_ (a' := ?_) ?_ ?_
      rotate_left
      · show Act.put _ (some 114) _ = _
        simp only [Act.put, List.setIfInBounds_toArray, List.set_cons_zero, List.set_cons_succ, i64_w, i32_w]
        rfl
      exact norm_ (by simp only [putAll, Act.put, List.setIfInBounds_toArray, List.set_cons_zero, List.set_cons_succ]) (hCont () _ HH.out)
  rintro _ w14 HH_
  clear HH q4 q5 hHeld
  have HH := Aside0.mk HH_
  clear HH_
  have hHeld := HH.out.xy
  refine norm_ (a' := ?_) ?_ ?_
  rotate_left
  · simp only [putAll, Act.put, List.setIfInBounds_toArray, List.set_cons_zero, List.set_cons_succ]
    rfl
  refine pure_ (i := 89) (N := some 119) (v := ?_) (a' := ?_) (bitsL 110 1237940039285380274899124223) rfl rfl (any_of HT_.out (by kernel_rfl)) (fun _ _ _ h => h) (Or.inl ⟨by rfl, ?_⟩) ?_ ?_
  rotate_left
  · intro w'
    go_simp
    with_reducible rfl
  rotate_left
  · simp only [Act.put, List.setIfInBounds_toArray, List.set_cons_zero, List.set_cons_succ, i64_w, i32_w]
    rfl
  refine pure_ (i := 90) (N := some 120) (v := ?_) (a' := ?_) (bitsL 110 2475880078570760549798248447) rfl rfl (any_of HT_.out (by kernel_rfl)) (fun _ _ _ h => h) (Or.inl ⟨by rfl, ?_⟩) ?_ ?_
  rotate_left
  · intro w'
    go_simp
    with_reducible rfl
  rotate_left
  · simp only [Act.put, List.setIfInBounds_toArray, List.set_cons_zero, List.set_cons_succ, i64_w, i32_w]
    rfl
  refine pure_ (i := 91) (N := some 121) (v := ?_) (a' := ?_) (bitsL 110 4951760157141521099596496895) rfl rfl (any_of HT_.out (by kernel_rfl)) (fun _ _ _ h => h) (Or.inl ⟨by rfl, ?_⟩) ?_ ?_
  rotate_left
  · intro w'
    go_simp
    with_reducible rfl
  rotate_left
  · simp only [Act.put, List.setIfInBounds_toArray, List.set_cons_zero, List.set_cons_succ, i64_w, i32_w]
    rfl
  refine pure_ (i := 92) (N := some 122) (v := ?_) (a' := ?_) (bitsL 110 9903520314283042199192993791) rfl rfl (any_of HT_.out (by kernel_rfl)) (fun _ _ _ h => h) (Or.inl ⟨by rfl, ?_⟩) ?_ ?_
  rotate_left
  · intro w'
    go_simp
    with_reducible rfl
  rotate_left
  · simp only [Act.put, List.setIfInBounds_toArray, List.set_cons_zero, List.set_cons_succ, i64_w, i32_w]
    rfl
  refine pure_ (i := 93) (N := some 123) (v := ?_) (a' := ?_) (bitsL 110 19807040628566084398385987583) rfl rfl (any_of HT_.out (by kernel_rfl)) (fun _ _ _ h => h) (Or.inl ⟨by rfl, ?_⟩) ?_ ?_
  rotate_left
  · intro w'
    go_simp
    with_reducible rfl
  rotate_left
  · simp only [Act.put, List.setIfInBounds_toArray, List.set_cons_zero, List.set_cons_succ, i64_w, i32_w]
    rfl
  refine pure_ (i := 94) (N := some 124) (v := ?_) (a' := ?_) (bitsL 110 39614081257132168796771975167) rfl rfl (any_of HT_.out (by kernel_rfl)) (fun _ _ _ h => h) (Or.inl ⟨by rfl, ?_⟩) ?_ ?_
  rotate_left
  · intro w'
    go_simp
    with_reducible rfl
  rotate_left
  · simp only [Act.put, List.setIfInBounds_toArray, List.set_cons_zero, List.set_cons_succ, i64_w, i32_w]
    rfl
  refine pure_ (i := 95) (N := some 125) (v := ?_) (a' := ?_) (bitsL 110 79228162514264337593543950335) rfl rfl (any_of HT_.out (by kernel_rfl)) (fun _ _ _ h => h) (Or.inl ⟨by rfl, ?_⟩) ?_ ?_
  rotate_left
  · intro w'
    go_simp
    with_reducible rfl
  rotate_left
  · simp only [Act.put, List.setIfInBounds_toArray, List.set_cons_zero, List.set_cons_succ, i64_w, i32_w]
    rfl
  refine pure_ (i := 97) (N := some 127) (v := ?_) (a' := ?_) (bitsL 110 237684487542793012780631851007) rfl rfl (any_of HT_.out (by kernel_rfl)) (fun _ _ _ h => h) (Or.inl ⟨by rfl, ?_⟩) ?_ ?_
  rotate_left
  · intro w'
    go_simp
    with_reducible rfl
  rotate_left
  · simp only [Act.put, List.setIfInBounds_toArray, List.set_cons_zero, List.set_cons_succ, i64_w, i32_w]
    rfl
  refine pure_ (i := 98) (N := some 128) (v := ?_) (a' := ?_) (bitsL 110 554597137599850363154807652351) rfl rfl (any_of HT_.out (by kernel_rfl)) (fun _ _ _ h => h) (Or.inl ⟨by rfl, ?_⟩) ?_ ?_
  rotate_left
  · intro w'
    go_simp
    with_reducible rfl
  rotate_left
  · simp only [Act.put, List.setIfInBounds_toArray, List.set_cons_zero, List.set_cons_succ, i64_w, i32_w]
    rfl
  refine pure_ (i := 99) (N := some 129) (v := ?_) (a' := ?_) (bitsL 110 1188422437713965063903159255039) rfl rfl (any_of HT_.out (by kernel_rfl)) (fun _ _ _ h => h) (Or.inl ⟨by rfl, ?_⟩) ?_ ?_
  rotate_left
  · intro w'
    go_simp
    with_reducible rfl
  rotate_left
  · simp only [Act.put, List.setIfInBounds_toArray, List.set_cons_zero, List.set_cons_succ, i64_w, i32_w]
    rfl
  refine pure_ (i := 100) (N := some 130) (v := ?_) (a' := ?_) (bitsL 110 2456073037942194465399862460415) rfl rfl (any_of HT_.out (by kernel_rfl)) (fun _ _ _ h => h) (Or.inl ⟨by rfl, ?_⟩) ?_ ?_
  rotate_left
  · intro w'
    go_simp
    with_reducible rfl
  rotate_left
  · simp only [Act.put, List.setIfInBounds_toArray, List.set_cons_zero, List.set_cons_succ, i64_w, i32_w]
    rfl
  obtain ⟨-, -, -, -, q4, q5⟩ := HH.out.cells
  refine join_ (σ := Unit) 8 (bitsL 110 5070602400912917605986812821503) (fun _ => [(126, .bool s4), (131, .bool s4)]) (fun _ w' => LawW w x y s4 s4 l g cap w') ?_ ?_
  rotate_left
  · intro hCont
    refine two_ (i := 96) (j := 101) (Ni := some 126) (Nj := some 131) (bitsL 110 2535301200456458802993406410751) (bitsL 110 4991374238398653268393268871167) rfl rfl rfl rfl (two_of HT_.out (by kernel_rfl)) (by decide) (by decide) (fun K hK => ?_) (fun K hK => ?_)
    · skip
      refine value_ (w1 := w14) (v := .bool s4) (by rfl) rfl (by go_simp) ?_
      refine hK.out _ _ HH.out.xy (fun hHeld => ?_)
      clear hK K
      refine norm_ (a' := ?_) ?_ ?_
      rotate_left
      · show Act.put _ (some 126) _ = _
        simp only [Act.put, List.setIfInBounds_toArray, List.set_cons_zero, List.set_cons_succ, i64_w, i32_w]
        rfl
      refine one_ (i := 101) (N := some 131) (bitsL 110 5070602400912917605986812821503) rfl rfl (one_of HT_.out (by kernel_rfl)) (by decide) (fun K hK => ?_)
      refine value_ (w1 := w14) (v := .bool s4) (by rfl) rfl (by go_simp) ?_
      refine hK.out _ _ HH.out.xy (fun hHeld => ?_)
      clear hK K
      refine norm_ (a' := ?_) ?_ ?_
      rotate_left
      · show Act.put _ (some 131) _ = _
        simp only [Act.put, List.setIfInBounds_toArray, List.set_cons_zero, List.set_cons_succ, i64_w, i32_w]
        rfl
      exact norm_ (by simp only [putAll, Act.put, List.setIfInBounds_toArray, List.set_cons_zero, List.set_cons_succ]) (hCont () _ HH.out)
    · skip
      refine value_ (w1 := w14) (v := .bool s4) (by rfl) rfl (by go_simp) ?_
      refine hK.out _ _ HH.out.xy (fun hHeld => ?_)
      clear hK K
      refine norm_ (a' := ?_) ?_ ?_
      rotate_left
      · show Act.put _ (some 131) _ = _
        simp only [Act.put, List.setIfInBounds_toArray, List.set_cons_zero, List.set_cons_succ, i64_w, i32_w]
        rfl
      refine one_ (i := 96) (N := some 126) (bitsL 110 5070602400912917605986812821503) rfl rfl (one_of HT_.out (by kernel_rfl)) (by decide) (fun K hK => ?_)
      refine value_ (w1 := w14) (v := .bool s4) (by rfl) rfl (by go_simp) ?_
      refine hK.out _ _ HH.out.xy (fun hHeld => ?_)
      clear hK K
      refine norm_ (a' := ?_) ?_ ?_
      rotate_left
      · show Act.put _ (some 126) _ = _
        simp only [Act.put, List.setIfInBounds_toArray, List.set_cons_zero, List.set_cons_succ, i64_w, i32_w]
        rfl
      exact norm_ (by simp only [putAll, Act.put, List.setIfInBounds_toArray, List.set_cons_zero, List.set_cons_succ]) (hCont () _ HH.out)
  rintro _ w15 HH_
  clear HH q4 q5 hHeld
  have HH := Aside0.mk HH_
  clear HH_
  have hHeld := HH.out.xy
  refine norm_ (a' := ?_) ?_ ?_
  rotate_left
  · simp only [putAll, Act.put, List.setIfInBounds_toArray, List.set_cons_zero, List.set_cons_succ]
    rfl
  refine pure_ (i := 102) (N := some 132) (v := ?_) (a' := ?_) (bitsL 110 10141204801825835211973625643007) rfl rfl (any_of HT_.out (by kernel_rfl)) (fun _ _ _ h => h) (Or.inl ⟨by rfl, ?_⟩) ?_ ?_
  rotate_left
  · intro w'
    go_simp
    with_reducible rfl
  rotate_left
  · simp only [Act.put, List.setIfInBounds_toArray, List.set_cons_zero, List.set_cons_succ, i64_w, i32_w]
    rfl
  refine pure_ (i := 103) (N := some 133) (v := ?_) (a' := ?_) (bitsL 110 20282409603651670423947251286015) rfl rfl (any_of HT_.out (by kernel_rfl)) (fun _ _ _ h => h) (Or.inl ⟨by rfl, ?_⟩) ?_ ?_
  rotate_left
  · intro w'
    go_simp
    with_reducible rfl
  rotate_left
  · simp only [Act.put, List.setIfInBounds_toArray, List.set_cons_zero, List.set_cons_succ, i64_w, i32_w]
    rfl
  refine pure_ (i := 104) (N := some 134) (v := ?_) (a' := ?_) (bitsL 110 40564819207303340847894502572031) rfl rfl (any_of HT_.out (by kernel_rfl)) (fun _ _ _ h => h) (Or.inl ⟨by rfl, ?_⟩) ?_ ?_
  rotate_left
  · intro w'
    go_simp
    with_reducible rfl
  rotate_left
  · simp only [Act.put, List.setIfInBounds_toArray, List.set_cons_zero, List.set_cons_succ, i64_w, i32_w]
    rfl
  refine pure_ (i := 105) (N := some 135) (v := ?_) (a' := ?_) (bitsL 110 81129638414606681695789005144063) rfl rfl (any_of HT_.out (by kernel_rfl)) (fun _ _ _ h => h) (Or.inl ⟨by rfl, ?_⟩) ?_ ?_
  rotate_left
  · intro w'
    go_simp
    with_reducible rfl
  rotate_left
  · simp only [Act.put, List.setIfInBounds_toArray, List.set_cons_zero, List.set_cons_succ, i64_w, i32_w]
    rfl
  refine pure_ (i := 106) (N := some 136) (v := ?_) (a' := ?_) (bitsL 110 162259276829213363391578010288127) rfl rfl (any_of HT_.out (by kernel_rfl)) (fun _ _ _ h => h) (Or.inl ⟨by rfl, ?_⟩) ?_ ?_
  rotate_left
  · intro w'
    go_simp
    with_reducible rfl
  rotate_left
  · simp only [Act.put, List.setIfInBounds_toArray, List.set_cons_zero, List.set_cons_succ, i64_w, i32_w]
    rfl
  refine one_ (i := 107) (N := some 137) (bitsL 110 324518553658426726783156020576255) rfl rfl (one_of HT_.out (by kernel_rfl)) (by decide) (fun K hK => ?_)
  refine goes_ Try.func33 (by kernel_rfl) rfl #[.slice (some ⟨g, 0, none⟩) l.length cap, .slice A l.length cp] (by rfl) rfl rfl (by (try simp only [List.map_toArray, List.map_cons, List.map_nil]); first | done | rfl) ?_
  refine (staysSpans_calls g cap A cp l (w.heap.size + 1 + 1 + 1 + 1) _ 100 (Kd.C_below HR.out HH.out.bl) hcp HH.out.hm (by omega) (same_f l (by omega) 100 (by omega))).mono ?_
  rintro e w16 ⟨rfl, hb2⟩
  refine ⟨_, rfl, ?_⟩
  replace HH := Aside0.mk (HH.out.below hb2)
  clear hb2
  refine hK.out _ _ HH.out.xy (fun hHeld => ?_)
  clear hK K
  refine norm_ (a' := ?_) ?_ ?_
  rotate_left
  · show Act.put _ (some 137) _ = _
    simp only [Act.put, List.setIfInBounds_toArray, List.set_cons_zero, List.set_cons_succ, i64_w, i32_w]
    rfl
  refine pure_ (i := 108) (N := some 138) (v := ?_) (a' := ?_) (bitsL 110 649037107316853453566312041152511) rfl rfl (any_of HT_.out (by kernel_rfl)) (fun _ _ _ h => h) (Or.inl ⟨by rfl, ?_⟩) ?_ ?_
  rotate_left
  · intro w'
    go_simp
    with_reducible rfl
  rotate_left
  · simp only [Act.put, List.setIfInBounds_toArray, List.set_cons_zero, List.set_cons_succ, i64_w, i32_w]
    rfl
  refine pure_ (i := 109) (N := some 10) (v := ?_) (a' := ?_) (bitsL 110 1298074214633706907132624082305023) rfl rfl (any_of HT_.out (by kernel_rfl)) (fun _ _ _ h => h) (Or.inl ⟨by rfl, ?_⟩) ?_ ?_
  rotate_left
  · intro w'
    go_simp
    with_reducible rfl
  rotate_left
  · simp only [Act.put, List.setIfInBounds_toArray, List.set_cons_zero, List.set_cons_succ, i64_w, i32_w]
    rfl
  refine done_ (done_of HT_.out (by kernel_rfl)) ?_
  --END
  have HF := Aside0.mk HH.out.bl
  go_wp2_with fail
  go_ret
  exact ⟨rfl, HF.out⟩
theorem reckons_walk (x y : Sp) (A : Option Addr) (cp : Nat) (l : List Sp) (c : Int) (over : Bool) (w : World) (hr : Kd.C k48 w A l.length l) (hcp : l.length ≤ cp) (hin : ∀ s ∈ l, inS s) (hx : inS x) (hy : inS y) (hc : in64 c) :
    Calls Try.prog 6 #[.agg #[.int .i64 x.f0, .int .i64 x.f1], .agg #[.int .i64 y.f0, .int .i64 y.f1], .slice A l.length cp, .int .i64 c, .bool over] w fun e w' => e = .returned (.bool true) ∧ Below w.heap.size w w' := by
  by_cases hl : l.length ≤ 60
  · exact reckons_short x y A cp l c over w hr hcp hin hx hy hc hl
  · clear hr hin hx hy hc
    have HB := Aside0.mk (below_alloc (below_alloc (Below.refl w.heap.size w) (.cells #[.int .i64 x.f0, .int .i64 x.f1] 48)) (.cells #[.int .i64 y.f0, .int .i64 y.f1] 48))
    go_enter Try.func6, Try.ntmps6
    go_wp2_with fail
    refine (alive_calls _).mono ?_
    rintro e w2 ⟨rfl, hb2⟩
    have HF := Aside0.mk (below_then HB.out HB.out.size hb2)
    clear hb2
    go_wp2_with fail
    go_ret
    exact ⟨rfl, HF.out⟩
end Go.Proofs.Ytlkdehflipfpbaa.QSpanReckons
