import Derived.Test.YtlkdehflipfpbaaE3
import Derived.Test.YtlkdehflipfpbaaWTab
namespace Go.Proofs.Ytlkdehflipfpbaa
open Go.RowKit Go.Proofs.YtlkdehflipfpbaaW.PrintWords Go.Proofs.YtlkdehflipfpbaaW.PrintLast

/-- A frame's five cells. -/
structure FrAt (w : World) (ad : Addr) (f : Fr) (B : Option Addr) (m c : Nat) : Prop where
  c0 : w.cell? ad = some (.int .i64 f.kind)
  c1 : w.cell? (ad.add 1) = some (.int .i64 f.src)
  c2 : w.cell? (ad.add 2) = some (.int .i64 f.tick)
  c3 : w.cell? (ad.add 3) = some (.slice B m c)
  c4 : w.cell? (ad.add 4) = some (.string f.data)
  reads : ReadsInt w .i64 B m f.nums
  inI : inI64 f.nums
theorem FrAt.below {w W : World} {ad : Addr} {f : Fr} {B : Option Addr} {m c : Nat} (h : FrAt w ad f B m c) (hb : Below w.heap.size w W) : FrAt W ad f B m c :=
  ⟨pw_cell_below hb h.c0, pw_cell_below hb h.c1, pw_cell_below hb h.c2, pw_cell_below hb h.c3, pw_cell_below hb h.c4, h.reads.below hb, h.inI⟩
def FrsAt (w : World) (A : Option Addr) (n : Nat) (fs : List Fr) : Prop :=
  fs.length = n ∧ n ≤ 9223372036854775807 ∧ (0 < n → ∃ ad, A = some ad ∧ ∀ (k : Nat) f, fs[k]? = some f → ∃ B m c, FrAt w (ad.add (k * 5)) f B m c)

theorem and63 (x : Int) : 0 ≤ bits .and .i64 x 63 ∧ bits .and .i64 x 63 ≤ 63 := by
  have h2 : (BitVec.ofInt 64 63).toNat = 63 := by decide
  have h3 : (BitVec.ofInt 64 x).toNat &&& 63 ≤ 63 := Nat.and_le_right
  have he : bits .and .i64 x 63 = (((BitVec.ofInt 64 x).toNat &&& 63 : Nat) : Int) := by
    show IntKind.i64.wrap ((BitVec.ofInt 64 x &&& BitVec.ofInt 64 63).toNat : Int) = _
    rw [BitVec.toNat_and, h2, IntKind.wrap_i64]
    generalize (BitVec.ofInt 64 x).toNat &&& 63 = y at h3
    omega
  rw [he]
  omega
theorem ext_join (S : ByteArray) (p q r : Nat) (h1 : p ≤ q) (h2 : q ≤ r) (h3 : q ≤ S.size) : S.extract p q ++ S.extract q r = S.extract p r := by
  apply ba_ext
  rw [data_app, data_ext, data_ext, data_ext]
  have hl : S.data.toList.length = S.size := data_length S
  apply List.ext_getElem?
  intro i
  rw [List.getElem?_append, List.length_drop, List.length_take]
  split
  · rename_i h
    rw [List.getElem?_drop, List.getElem?_drop, List.getElem?_take_of_lt (by omega), List.getElem?_take_of_lt (by omega)]
  · rename_i h
    rw [List.getElem?_drop, List.getElem?_drop, show q + (i - (min q S.data.toList.length - p)) = p + i from by omega]
def lostN (N : ByteArray) (fs : List Fr) (k p : Nat) : Nat := N.size * k + (p - (strm N (fs.take k)).size)
theorem below_under {B C : Nat} {w w1 w2 : World} (h : Below B w w1) (hB : B ≤ C) (k : Below C w1 w2) : Below B w w2 :=
  h.trans ⟨k.os, k.tape, k.output, k.size, fun i hi => k.block i (Nat.lt_of_lt_of_le hi hB)⟩
theorem lost_more (N : ByteArray) (fs : List Fr) (k p j : Nat) (h : (strm N (fs.take k)).size ≤ p) : ((lostN N fs k p : Nat) : Int) + (j : Int) = ((lostN N fs k (p + j) : Nat) : Int) := by
  unfold lostN
  omega
theorem lost_next (N : ByteArray) (fs : List Fr) (k p j n : Nat) (h : (strm N (fs.take k)).size ≤ p) (h1 : p + j + n = (strm N (fs.take (k + 1))).size) (h2 : p + j = (strm N (fs.take k)).size + N.size) :
    ((lostN N fs k p : Nat) : Int) + (j : Int) = ((lostN N fs (k + 1) (p + j + n) : Nat) : Int) := by
  unfold lostN
  rw [h1, Nat.sub_self, Nat.mul_succ]
  generalize N.size * k = y
  omega
theorem lost_le (N : ByteArray) (fs : List Fr) (k p : Nat) (hN : N.size ≤ 40) (hk : k ≤ 12) (h : p ≤ 20000) : lostN N fs k p ≤ 30000 := by
  unfold lostN
  have := Nat.mul_le_mul hN hk
  omega
def PInv (N : ByteArray) (fs : List Fr) (g m : Nat) (w : World) (kk at0 i : Value) (W : World) : Prop :=
  ∃ k p q j : Nat, kk = .int .i64 k ∧ at0 = .int .i64 q ∧ i = .int .i64 j ∧ j ≤ m + 1 ∧ At N fs k p q ∧ Rdr g ((strm N fs).extract p q) ((lostN N fs k p : Nat) : Int) W ∧ Below w.heap.size w W ∧ (j = m + 1 → q = (strm N fs).size ∧ k = fs.length)
def NInv (N : ByteArray) (fs : List Fr) (g q : Nat) (w : World) (kk : Value) (W : World) : Prop :=
  ∃ k p : Nat, kk = .int .i64 k ∧ At N fs k p q ∧ Rdr g ((strm N fs).extract p q) ((lostN N fs k p : Nat) : Int) W ∧ Below w.heap.size w W

def TwoF (ad : Addr) (b : Nat) (f : Fr) (Av : Option Addr) (cv : Nat) (B1 : Option Addr) (m1 c1 : Nat) (w' : World) : Prop :=
  w'.cell? ⟨b, 0, none⟩ = some (.int .i64 f.kind) ∧ w'.cell? ⟨b, 1, none⟩ = some (.int .i64 f.src) ∧ w'.cell? ⟨b, 2, none⟩ = some (.int .i64 f.tick) ∧ w'.cell? ⟨b, 3, none⟩ = some (.slice Av f.nums.length cv) ∧ w'.cell? ⟨b, 4, none⟩ = some (.string f.data) ∧
  w'.cell? ad = some (.int .i64 f.kind) ∧ w'.cell? ⟨ad.block, ad.off + 1, none⟩ = some (.int .i64 f.src) ∧ w'.cell? ⟨ad.block, ad.off + 2, none⟩ = some (.int .i64 f.tick) ∧ w'.cell? ⟨ad.block, ad.off + 3, none⟩ = some (.slice B1 m1 c1) ∧ w'.cell? ⟨ad.block, ad.off + 4, none⟩ = some (.string f.data)
theorem TwoF.below {ad : Addr} {b : Nat} {f : Fr} {Av : Option Addr} {cv : Nat} {B1 : Option Addr} {m1 c1 : Nat} {w w' : World} (h : TwoF ad b f Av cv B1 m1 c1 w) (hb : Below w.heap.size w w') : TwoF ad b f Av cv B1 m1 c1 w' := by
  obtain ⟨h0, h1, h2, h3, h4, h5, h6, h7, h8, h9⟩ := h
  exact ⟨pw_cell_below hb h0, pw_cell_below hb h1, pw_cell_below hb h2, pw_cell_below hb h3, pw_cell_below hb h4, pw_cell_below hb h5, pw_cell_below hb h6, pw_cell_below hb h7, pw_cell_below hb h8, pw_cell_below hb h9⟩
theorem twoF_new (w : World) (ad : Addr) (f : Fr) (Av : Option Addr) (cv : Nat) (B1 : Option Addr) (m1 c1 : Nat) (h0 : w.cell? ad = some (.int .i64 f.kind)) (h1 : w.cell? ⟨ad.block, ad.off + 1, none⟩ = some (.int .i64 f.src)) (h2 : w.cell? ⟨ad.block, ad.off + 2, none⟩ = some (.int .i64 f.tick))
    (h3 : w.cell? ⟨ad.block, ad.off + 3, none⟩ = some (.slice B1 m1 c1)) (h4 : w.cell? ⟨ad.block, ad.off + 4, none⟩ = some (.string f.data)) :
    TwoF ad w.heap.size f Av cv B1 m1 c1 (w.alloc (.cells #[.int .i64 f.kind, .int .i64 f.src, .int .i64 f.tick, .slice Av f.nums.length cv, .string f.data] 26)) := by
  have k := heap_alloc_new w (.cells #[.int .i64 f.kind, .int .i64 f.src, .int .i64 f.tick, .slice Av f.nums.length cv, .string f.data] 26)
  have hb := below_alloc (Below.refl _ w) (.cells #[.int .i64 f.kind, .int .i64 f.src, .int .i64 f.tick, .slice Av f.nums.length cv, .string f.data] 26)
  exact ⟨blk_cell k 0, blk_cell k 1, blk_cell k 2, blk_cell k 3, blk_cell k 4, pw_cell_below hb h0, pw_cell_below hb h1, pw_cell_below hb h2, pw_cell_below hb h3, pw_cell_below hb h4⟩
structure RgW (w : World) (g : Nat) (b : ByteArray) (l : Int) (ad : Addr) (bf : Nat) (f : Fr) (Av : Option Addr) (cv : Nat) (B1 : Option Addr) (m1 c1 : Nat) (W : World) : Prop where
  cells : TwoF ad bf f Av cv B1 m1 c1 W
  r1 : ReadsInt W .i64 Av f.nums.length f.nums
  r2 : ReadsInt W .i64 B1 m1 f.nums
  rdr : Rdr g b l W
  bl : Below w.heap.size w W
theorem RgW.drew {w W : World} {g : Nat} {b : ByteArray} {l : Int} {ad : Addr} {bf : Nat} {f : Fr} {Av : Option Addr} {cv : Nat} {B1 : Option Addr} {m1 c1 : Nat} (h : RgW w g b l ad bf f Av cv B1 m1 c1 W) : RgW w g b l ad bf f Av cv B1 m1 c1 W.drew :=
  ⟨h.cells, h.r1, h.r2, h.rdr, below_drew h.bl⟩
theorem RgW.below {w W W' : World} {g : Nat} {b : ByteArray} {l : Int} {ad : Addr} {bf : Nat} {f : Fr} {Av : Option Addr} {cv : Nat} {B1 : Option Addr} {m1 c1 : Nat} (h : RgW w g b l ad bf f Av cv B1 m1 c1 W) (hb : Below W.heap.size W W') : RgW w g b l ad bf f Av cv B1 m1 c1 W' :=
  ⟨h.cells.below hb, h.r1.below hb, h.r2.below hb, h.rdr.below hb (blk_lt h.rdr), below_then h.bl h.bl.size hb⟩
--TABLE
def pieces.T28 : Bool × List (List Nat × List Nat) := (true, [([], []), ([], []), ([1], [1]), ([0, 2], [0, 2]), ([3], [3]), ([4], [4]), ([4], [4]), ([4], [4]), ([6, 7, 4], [4, 6, 7]), ([8, 4], [4, 8]), ([5, 9, 4, 4], [4, 5, 9]), ([10, 4], [4, 10]), ([4, 11], [4, 11])])
def pieces.B28 : List Nat := [0, 0, 2, 7, 15, 31, 31, 31, 223, 479, 1023, 2047, 4095]
theorem pieces.tab28 : rtab .any (opsOf Try.f7 28) = pieces.T28 := by kernel_rfl
theorem pieces.bits28 : waitsOk pieces.T28.2 pieces.B28 = true := by kernel_rfl
--ENDTABLE
set_option maxRecDepth 100000 in
set_option maxHeartbeats 8000000 in
theorem pieces_walk (A : Option Addr) (n c : Nat) (fs : List Fr) (N : ByteArray) (B : Option Addr) (m d : Nat) (cs : List Int) (w : World) (hF : FrsAt w A n fs) (hC : ReadsInt w .i64 B m cs)
    (h1 : n ≤ 12) (h2 : m ≤ 60) (h3 : N.size ≤ 40) :
    Calls Try.prog 7 #[.slice A n c, .string N, .slice B m d] w fun e w' => e = .returned (.bool true) ∧ Below w.heap.size w w' := by
  have HF := Lib.hid hF
  have HC := Lib.hid hC
  clear hF hC
  go_enter Try.func7, Try.ntmps7
  go_wp2_with fail
  go_loopw [7] (fun i W => w = W ∧ ∃ k : Nat, k ≤ N.size ∧ i = .int .i64 k ∧ ∀ j, j < k → bt N (j : Int) ≠ 165) (fun i _ => N.size - (intOf i).toNat)
  case atStart => exact ⟨rfl, 0, by omega, rfl, fun j hj => absurd hj (by omega)⟩
  case round =>
    obtain ⟨rfl, k, hk, rfl, hn⟩ := hrel
    by_cases hlt : k < N.size
    · have HN := Lib.hid hn
      have hb0 := bt_at N (k : Int) (by simpa using hlt)
      simp only [Int.toNat_natCast] at hb0
      clear hn
      by_cases h165 : bt N (k : Int) = 165
      · go_wp2_with (go_at_call 8; refine (alive_calls _).mono ?_; rintro e w9 ⟨rfl, hb⟩)
        go_ret
        exact ⟨rfl, hb⟩
      · go_wp2_with fail
        refine ⟨⟨trivial, k + 1, by omega, by go_num, fun j hj => ?_⟩, by simp [intOf]; omega⟩
        by_cases hjk : j = k
        · rw [hjk]; exact h165
        · exact HN.out j (by omega)
    · obtain rfl : k = N.size := by omega
      have HN := Lib.hid hn
      clear hn
      go_wp2_with fail
      go_loopw [8, 9] (fun b i W => ∃ k : Nat, k ≤ n ∧ i = .int .i64 k ∧ b = .string (strm N (fs.take k)) ∧ (∀ f ∈ fs.take k, (okFr f ∧ f.data.size ≤ 300) ∧ inI64 f.nums) ∧ Below w.heap.size w W) (fun _ i _ => n - (intOf i).toNat)
      case atStart => exact ⟨0, by omega, rfl, rfl, fun f hf => by simp at hf, Below.refl _ w⟩
      case round =>
        obtain ⟨k, hk, rfl, rfl, hok, hbw⟩ := hrel
        have HK := Lib.hid hok
        have HBw := Lib.hid hbw
        clear hok hbw
        by_cases hlt : k < n
        · obtain ⟨ad, hA, hel⟩ := HF.out.2.2 (by omega)
          obtain ⟨f, hfk⟩ : ∃ f, fs[k]? = some f := ⟨_, List.getElem?_eq_getElem (by rw [HF.out.1]; exact hlt)⟩
          obtain ⟨B1, m1, c1, hfr⟩ := hel k f hfk
          have HFr := Lib.hid (hfr.below HBw.out)
          have HFk := Lib.hid hfk
          subst hA
          clear hel hfr hfk
          have q0 := HFr.out.c0
          have q1 : wr.cell? ⟨(ad.add (k * 5)).block, (ad.add (k * 5)).off + 1, none⟩ = some (.int .i64 f.src) := HFr.out.c1
          have q2 : wr.cell? ⟨(ad.add (k * 5)).block, (ad.add (k * 5)).off + 2, none⟩ = some (.int .i64 f.tick) := HFr.out.c2
          have q3 : wr.cell? ⟨(ad.add (k * 5)).block, (ad.add (k * 5)).off + 3, none⟩ = some (.slice B1 m1 c1) := HFr.out.c3
          have q4 : wr.cell? ⟨(ad.add (k * 5)).block, (ad.add (k * 5)).off + 4, none⟩ = some (.string f.data) := HFr.out.c4
          obtain ⟨S, hS⟩ : ∃ S, S = strm N (fs.take k) := ⟨_, rfl⟩
          rw [← hS]
          have HS := Lib.hid hS
          clear hS
          have hn12 := HF.out.2.1
          have hSs : S.size ≤ 14400 := by
            have h := strm_size_le N h3 (fs.take k) (fun f hf => (HK.out f hf).1)
            rw [← HS.out, List.length_take] at h
            omega
          by_cases okf : okFr f
          · have HP := put_ok f B1 m1 c1 wr okf HFr.out.reads
            have HOK := Lib.hid okf
            have hps := put_size f
            have okf2 := okf.2
            obtain ⟨P, hP⟩ : ∃ P, P = putB f := ⟨_, rfl⟩
            rw [← hP] at HP hps
            have HP' := Lib.hid HP
            have HPe := Lib.hid hP
            clear HP hP okf
            go_wp2_with fail
            refine HP'.out.mono ?_
            rintro e w1 ⟨rfl, hb1⟩
            have q5 : w1.cell? ⟨(ad.add (k * 5)).block, (ad.add (k * 5)).off + 4, none⟩ = some (.string f.data) := pw_cell_below hb1 q4
            have Hb1 := Lib.hid (below_then HBw.out HBw.out.size hb1)
            clear q0 q1 q2 q3 q4 hb1
            by_cases h300 : f.data.size ≤ 300
            · have hadd1 : ∀ W : World, (Op.stringOp .add N P).run Try.prog W = .ok (.string (N ++ P)) W := fun W => run_string_add_sum (P := Try.prog) (w := W) N P (by omega)
              have hadd2 : ∀ W : World, (Op.stringOp .add S (N ++ P)).run Try.prog W = .ok (.string (S ++ (N ++ P))) W := fun W => run_string_add_sum (P := Try.prog) (w := W) S (N ++ P) (by rw [size_app]; omega)
              go_wp2_with fail
              refine ⟨⟨k + 1, by omega, by go_num, ?_, ?_, Hb1.out⟩, by simp [intOf]; omega⟩
              · rw [List.take_add_one, HFk.out, HS.out, HPe.out]
                congr 1
                exact (strm_snoc N _ f).symm
              · intro x hx
                rw [List.take_add_one, HFk.out] at hx
                rcases List.mem_append.1 hx with hx | hx
                · exact HK.out x hx
                · obtain rfl : x = f := by simpa using hx
                  exact ⟨⟨HOK.out, h300⟩, HFr.out.inI⟩
            · go_wp2_with (go_at_call 8; refine (alive_calls _).mono ?_; rintro e w9 ⟨rfl, hb⟩)
              all_goals
                go_ret
                exact ⟨rfl, below_then Hb1.out Hb1.out.size hb⟩
          · have HP := Lib.hid (put_bad f B1 m1 c1 wr HFr.out.reads.1 okf)
            clear okf
            go_wp2_with fail
            refine HP.out.mono ?_
            rintro e w1 ⟨q, hq, rfl, hb1⟩
            have hq' : (q != 0) = true := bne_iff_ne.2 hq
            have Hb1 := Lib.hid (below_then HBw.out HBw.out.size hb1)
            clear hq q0 q1 q2 q3 q4
            go_wp2_with (go_at_call 8; refine (alive_calls _).mono ?_; rintro e w9 ⟨rfl, hb⟩)
            all_goals
              go_ret
              exact ⟨rfl, below_then Hb1.out Hb1.out.size hb⟩
        · obtain rfl : n = k := by omega
          have hfl := HF.out.1
          rw [← hfl, List.take_length] at HK
          rw [← hfl, List.take_length]
          rw [hfl]
          obtain ⟨S, hS⟩ : ∃ S, S = strm N fs := ⟨_, rfl⟩
          rw [← hS]
          have hSs : S.size ≤ 14400 := by
            have h := strm_size_le N h3 fs (fun f hf => (HK.out f hf).1)
            rw [← hS] at h
            omega
          have HS := Lib.hid hS
          clear hS
          have HI0 : Hid (PInv N fs wr.heap.size m w (.int .i64 0) (.int .i64 0) (.int .i64 0) (wr.alloc (.cells #[.string ⟨#[]⟩, .int .i64 0] 66))) := Lib.hid
            ⟨0, 0, 0, 0, rfl, rfl, rfl, by omega, ⟨by omega, by omega, by omega, by show (⟨#[]⟩ : ByteArray).size ≤ 0; exact Nat.le_refl _, by omega⟩, by rw [ext_none, show lostN N fs 0 0 = 0 from by unfold lostN; omega]; exact heap_alloc_new wr _, HBw.out.alloc HBw.out.size _, fun h => absurd h (by omega)⟩
          have hgw := HBw.out.size
          go_wp2_with fail
          generalize hgE : wr.heap.size = g at HI0 hgw ⊢
          go_loopw [13, 14, 15] (fun kk at0 i W => PInv N fs g m w kk at0 i W) (fun _ _ i _ => m + 1 - (intOf i).toNat)
          case atStart => exact HI0.out
          case round =>
            obtain ⟨k, p, q, j, rfl, rfl, rfl, hj, hat, hR, hbl, hend⟩ := hrel
            rw [← HS.out] at hR hend
            have HA := Lib.hid hat
            have HR := Lib.hid hR
            have HB := Lib.hid hbl
            have HE := Lib.hid hend
            have hqs := hat.qs
            rw [← HS.out] at hqs
            clear hat hR hbl hend
            by_cases hjm : j ≤ m
            · obtain ⟨q2, z, hq2, hzr, hq2z, hq2m, hq2e⟩ : ∃ (q2 : Nat) (z : Int), q ≤ q2 ∧ (0 ≤ z ∧ z ≤ 63) ∧ (j < m → bits .and .i64 (cs.getD j 0) 63 = z ∧ (q2 : Int) = min ((q : Int) + z) (S.size : Int)) ∧ q2 ≤ S.size ∧ (¬ j < m → q2 = S.size) := by
                obtain ⟨h63a, h63b⟩ := and63 (cs.getD j 0)
                by_cases hjl : j < m
                · exact ⟨min (q + (bits .and .i64 (cs.getD j 0) 63).toNat) S.size, _, by omega, ⟨h63a, h63b⟩, fun _ => ⟨rfl, by omega⟩, by omega, fun h => absurd hjl h⟩
                · exact ⟨S.size, 0, hqs, by omega, fun h => absurd h hjl, Nat.le_refl _, fun _ => rfl⟩
              have hpq := HA.out.pq
              by_cases hjl : j < m
              · obtain ⟨hz, hm⟩ := hq2z hjl
                obtain ⟨adC, hB, hcell⟩ := HC.out.2.2 (by omega)
                have hcj : wr.cell? (adC.add j) = some (.int .i64 (cs.getD j 0)) := pw_cell_below HB.out (hcell j hjl)
                obtain ⟨x, hx⟩ : ∃ x, cs.getD j 0 = x := ⟨_, rfl⟩
                rw [hx] at hz hcj
                subst hB
                clear hcell hq2z hq2e hx
                go_wp2_with fail
                rw [← hm, Int.toNat_natCast]
                --TAIL
                refine (feed_calls g wr.heap.size 1 (S.extract p q) (S.extract q q2) ((lostN N fs k p : Nat) : Int) _ (heap_old wr _ _ HR.out) (blk_cell (heap_alloc_new wr (.cells #[.string (S.extract q q2)] 9)) 0) (by rw [size_ext, size_ext]; omega)).mono ?_
                rintro e w5 ⟨rfl, hb5, hR5⟩
                rw [ext_join S p q q2 hpq hq2 hqs] at hR5
                have hB5 := below_under (HB.out.alloc HB.out.size _) hgw hb5
                have HI1 : Hid (NInv N fs g q2 w (.int .i64 k) w5) := Lib.hid ⟨k, p, rfl, ⟨HA.out.kl, by omega, by rw [← HS.out]; exact hq2m, HA.out.lo, HA.out.hi⟩, by rw [← HS.out]; exact hR5, hB5⟩
                clear hb5 hR5 hB5
                go_wp2_with fail
                go_loopw [13] (fun kk W => NInv N fs g q2 w kk W) (fun kk _ => fs.length - (intOf kk).toNat)
                case atStart => exact HI1.out
                case round =>
                  obtain ⟨k2, p2, rfl, hat2, hR2, hB2⟩ := hrel
                  rw [← HS.out] at hR2
                  obtain ⟨jj, r, st⟩ := step N fs k2 p2 q2 HN.out (fun f hf => ⟨(HK.out f hf).1.1, (HK.out f hf).2⟩) hat2
                  have hlo2 := hat2.lo
                  have hpq2 := hat2.pq
                  have hkl2 := hat2.kl
                  have hll := lost_le N fs k2 p2 h3 (by omega) (by omega)
                  have hbs : (S.extract p2 q2).size = q2 - p2 := by rw [size_ext]; omega
                  have hjl2 := st.jl
                  have hno := st.noise
                  have hgo := st.got
                  rw [← HS.out] at hno hgo
                  have HR2 := Lib.hid hR2
                  have HB2 := Lib.hid hB2
                  clear hat2 hR2 hB2
                  rcases st.what with ⟨hr, hat3, hfin⟩ | ⟨f, n2, hfk, hr, hle, hat3, hs1, hs2⟩
                  · have HX := Lib.hid (next_calls g (S.extract p2 q2) ((lostN N fs k2 p2 : Nat) : Int) jj r wr HR2.out (by omega) (by omega) (by omega) hno hgo (.inl (by rw [hr])))
                    have HA3 := Lib.hid hat3
                    have HFin := Lib.hid hfin
                    clear hno hgo st hat3 hfin
                    go_wp2_with fail
                    refine HX.out.mono ?_
                    rintro e w6 (⟨_, rfl, hR6, hB6⟩ | ⟨h0, _⟩)
                    rotate_left
                    · rw [hr] at h0; exact absurd h0 (by simp)
                    rw [hbs, ext_gen, show min (p2 + (q2 - p2)) q2 = q2 from by omega, lost_more N fs k2 p2 jj hlo2, HS.out] at hR6
                    have HR6 := Lib.hid hR6
                    have HB6 := Lib.hid (below_under HB2.out hgw hB6)
                    clear hR6 hB6
                    go_wp2_with fail
                    rw [← hm]
                    refine ⟨⟨k2, p2 + jj, q2, j + 1, rfl, rfl, by go_num, by omega, HA3.out, heap_old w6 _ _ HR6.out, HB6.out.alloc HB6.out.size _, fun h => ?_⟩, by simp [intOf]; omega⟩
                    have := HFin.out
                    rw [← HS.out] at this ⊢
                    omega
                  · obtain ⟨ad, hA, hel⟩ := HF.out.2.2 (by have := (List.getElem?_eq_some_iff.1 hfk).1; have := HF.out.1; omega)
                    obtain ⟨B1, m1, c1, hfr⟩ := hel k2 f hfk
                    have hk2l := (List.getElem?_eq_some_iff.1 hfk).1
                    have hk2n : k2 < n := by omega
                    have hge1 : decide ((n : Int) ≤ (k2 : Int)) = false := decide_eq_false (by omega)
                    have hge2 : decide (n ≤ k2) = false := decide_eq_false (by omega)
                    have HX := Lib.hid (next_calls g (S.extract p2 q2) ((lostN N fs k2 p2 : Nat) : Int) jj r wr HR2.out (by omega) (by omega) (by omega) hno hgo (.inr (by rw [hr]; exact ⟨rfl, n2, rfl, by omega⟩)))
                    have HA3 := Lib.hid hat3
                    have HFr := Lib.hid hfr
                    subst hA
                    clear hno hgo st hat3 hel hfr
                    go_wp2_with fail
                    refine HX.out.mono ?_
                    rintro e w6 (⟨h0, _⟩ | ⟨_, v, rfl, ho6, hR6, hB6⟩)
                    · rw [hr] at h0; exact absurd h0 (by simp)
                    rw [hr] at hR6 ho6
                    rw [hr]
                    dsimp only at hR6 ho6 ⊢
                    rw [hbs, ext_gen, show min (p2 + (q2 - p2)) q2 = q2 from by omega, Int.toNat_natCast, ← Nat.add_assoc, lost_next N fs k2 p2 jj n2 hlo2 hs1 hs2, HS.out] at hR6
                    obtain ⟨Av, cv, hv⟩ := own_slice ho6
                    subst hv
                    have HR6 := Lib.hid hR6
                    have HB6 := Lib.hid (below_under HB2.out hgw hB6)
                    have HFr6 := Lib.hid (HFr.out.below HB6.out)
                    obtain ⟨A', c', he, hrd⟩ := own_reads ho6
                    injection he with he1 he2 he3
                    subst he1
                    clear he2 he3 c'
                    have Hrd := Lib.hid (fun x : Array Value => hrd.below (below_alloc (Below.refl _ w6) (.cells x 26)))
                    have Hrd2 := Lib.hid (fun x : Array Value => HFr6.out.reads.below (below_alloc (Below.refl _ w6) (.cells x 26)))
                    have q0 := HFr6.out.c0
                    have q1 : w6.cell? ⟨(ad.add (k2 * 5)).block, (ad.add (k2 * 5)).off + 1, none⟩ = some (.int .i64 f.src) := HFr6.out.c1
                    have q2' : w6.cell? ⟨(ad.add (k2 * 5)).block, (ad.add (k2 * 5)).off + 2, none⟩ = some (.int .i64 f.tick) := HFr6.out.c2
                    have q3 : w6.cell? ⟨(ad.add (k2 * 5)).block, (ad.add (k2 * 5)).off + 3, none⟩ = some (.slice B1 m1 c1) := HFr6.out.c3
                    have q4 : w6.cell? ⟨(ad.add (k2 * 5)).block, (ad.add (k2 * 5)).off + 4, none⟩ = some (.string f.data) := HFr6.out.c4
                    have hadl := World.block_lt_of_cell? w6 _ q0
                    clear hR6 hB6 hrd ho6
                    obtain ⟨W7, hW7⟩ : ∃ W7, W7 = w6.alloc (.cells #[.int .i64 f.kind, .int .i64 f.src, .int .i64 f.tick, .slice Av f.nums.length cv, .string f.data] 26) := ⟨_, rfl⟩
                    have HH : Hid (RgW w g ((strm N fs).extract (p2 + jj + n2) q2) ((lostN N fs (k2 + 1) (p2 + jj + n2) : Nat) : Int) (ad.add (k2 * 5)) w6.heap.size f Av cv B1 m1 c1 W7) := by
                      rw [hW7]
                      exact Lib.hid ⟨twoF_new w6 _ f Av cv B1 m1 c1 q0 q1 q2' q3 q4, Hrd.out _, Hrd2.out _, heap_old w6 _ _ HR6.out, HB6.out.alloc HB6.out.size _⟩
                    clear q0 q1 q2' q3 q4 Hrd Hrd2 HR6 HB6 HFr6
                    go_wp2_with fail
                    rw [← hW7]
                    clear hW7
                    --BEGIN
                    refine start_ (n := 13) (S := fun w' => TwoF (ad.add (k2 * 5)) w6.heap.size f Av cv B1 m1 c1 w') (ds := []) #[false, false, false, false, false, false, false, false, false, false, false, false, false] (by kernel_rfl) rfl rfl HH.out.drew.cells (fun hHeld => ?_); refine with_tabW pieces.tab28 pieces.bits28 (fun HT_ HW_ => ?_)
                    replace HH := Lib.hid HH.out.drew
                    generalize W7.drew = w7 at HH hHeld ⊢
                    refine pure_ (i := 0) (N := some 114) (v := ?_) (a' := ?_) #[true, false, false, false, false, false, false, false, false, false, false, false, false] rfl rfl (any_of HT_.out (by kernel_rfl)) (fun _ _ _ h => h) (Or.inl ⟨by rfl, ?_⟩) ?_ ?_
                    rotate_left
                    · intro w'
                      go_simp
                      with_reducible rfl
                    rotate_left
                    · simp only [Act.put, List.setIfInBounds_toArray, List.set_cons_zero, List.set_cons_succ, i64_w, i32_w]
                      rfl
                    refine pure_ (i := 1) (N := some 115) (v := ?_) (a' := ?_) #[true, true, false, false, false, false, false, false, false, false, false, false, false] rfl rfl (any_of HT_.out (by kernel_rfl)) (fun _ _ _ h => h) (Or.inl ⟨by rfl, ?_⟩) ?_ ?_
                    rotate_left
                    · intro w'
                      go_simp
                      with_reducible rfl
                    rotate_left
                    · simp only [Act.put, List.setIfInBounds_toArray, List.set_cons_zero, List.set_cons_succ, i64_w, i32_w]
                      rfl
                    refine pure_ (i := 2) (N := some 116) (v := ?_) (a' := ?_) #[true, true, true, false, false, false, false, false, false, false, false, false, false] rfl rfl (any_of HT_.out (by kernel_rfl)) (fun _ _ _ h => h) (Or.inl ⟨by rfl, ?_⟩) ?_ ?_
                    rotate_left
                    · intro w'
                      go_simp
                      with_reducible rfl
                    rotate_left
                    · simp only [Act.put, List.setIfInBounds_toArray, List.set_cons_zero, List.set_cons_succ, i64_w, i32_w]
                      rfl
                    refine pure_ (i := 3) (N := some 117) (v := ?_) (a' := ?_) #[true, true, true, true, false, false, false, false, false, false, false, false, false] rfl rfl (any_of HT_.out (by kernel_rfl)) (fun _ _ _ h => h) (Or.inl ⟨by rfl, ?_⟩) ?_ ?_
                    rotate_left
                    · intro w'
                      refine Eq.trans (b := Result.ok (Next.value (.bool false)) w') ?_ ?_
                      rotate_left
                      · with_reducible rfl
                      · go_simp
                        all_goals first | done | omega | (rw [hge1]) | (rw [hge2])
                    rotate_left
                    · simp only [Act.put, List.setIfInBounds_toArray, List.set_cons_zero, List.set_cons_succ, i64_w, i32_w]
                      rfl
                    refine pure_ (i := 4) (N := some 118) (v := ?_) (a' := ?_) #[true, true, true, true, true, false, false, false, false, false, false, false, false] rfl rfl (any_of HT_.out (by kernel_rfl)) (fun _ _ _ h => h) (Or.inl ⟨by rfl, ?_⟩) ?_ ?_
                    rotate_left
                    · intro w'
                      go_simp
                      with_reducible rfl
                    rotate_left
                    · simp only [Act.put, List.setIfInBounds_toArray, List.set_cons_zero, List.set_cons_succ, i64_w, i32_w]
                      rfl
                    refine pure_ (i := 6) (N := some 120) (v := ?_) (a' := ?_) #[true, true, true, true, true, false, true, false, false, false, false, false, false] rfl rfl (any_of HT_.out (by kernel_rfl)) (fun _ _ _ h => h) (Or.inl ⟨by rfl, ?_⟩) ?_ ?_
                    rotate_left
                    · intro w'
                      go_simp
                      with_reducible rfl
                    rotate_left
                    · simp only [Act.put, List.setIfInBounds_toArray, List.set_cons_zero, List.set_cons_succ, i64_w, i32_w]
                      rfl
                    refine pure_ (i := 7) (N := some 121) (v := ?_) (a' := ?_) #[true, true, true, true, true, false, true, true, false, false, false, false, false] rfl rfl (any_of HT_.out (by kernel_rfl)) (fun _ _ _ h => h) (Or.inl ⟨by rfl, ?_⟩) ?_ ?_
                    rotate_left
                    · intro w'
                      go_simp
                      with_reducible rfl
                    rotate_left
                    · simp only [Act.put, List.setIfInBounds_toArray, List.set_cons_zero, List.set_cons_succ, i64_w, i32_w]
                      rfl
                    refine pure_ (i := 8) (N := some 122) (v := ?_) (a' := ?_) #[true, true, true, true, true, false, true, true, true, false, false, false, false] rfl rfl (any_of HT_.out (by kernel_rfl)) (fun _ _ _ h => h) (Or.inl ⟨by rfl, ?_⟩) ?_ ?_
                    rotate_left
                    · intro w'
                      go_simp
                      with_reducible rfl
                    rotate_left
                    · simp only [Act.put, List.setIfInBounds_toArray, List.set_cons_zero, List.set_cons_succ, i64_w, i32_w]
                      rfl
                    refine take_ (i := 5) (N := some 119) (v := ?_) (a' := ?_) #[true, true, true, true, true, true, true, true, true, false, false, false, false] rfl rfl (take_ofW HT_.out HW_.out (by kernel_rfl)) (fun _ _ _ h => h) (Or.inl ⟨by rfl, ?_⟩) hHeld ?_ ?_
                    rotate_left
                    · rintro w' ⟨h0, h1, h2, h3, h4, h5, h6, h7, h8, h9⟩
                      go_simp
                      with_reducible rfl
                    rotate_left
                    · simp only [Act.put, List.setIfInBounds_toArray, List.set_cons_zero, List.set_cons_succ, i64_w, i32_w]
                      rfl
                    refine take_ (i := 9) (N := some 123) (v := ?_) (a' := ?_) #[true, true, true, true, true, true, true, true, true, true, false, false, false] rfl rfl (take_ofW HT_.out HW_.out (by kernel_rfl)) (fun _ _ _ h => h) (Or.inl ⟨by rfl, ?_⟩) hHeld ?_ ?_
                    rotate_left
                    · rintro w' ⟨h0, h1, h2, h3, h4, h5, h6, h7, h8, h9⟩
                      go_simp
                      with_reducible rfl
                    rotate_left
                    · simp only [Act.put, List.setIfInBounds_toArray, List.set_cons_zero, List.set_cons_succ, i64_w, i32_w]
                      rfl
                    refine one_ (i := 10) (N := some 124) #[true, true, true, true, true, true, true, true, true, true, true, false, false] rfl rfl (one_of HT_.out (by kernel_rfl)) (by decide) (fun K hK => ?_)
                    refine goes_ Try.func11 (by kernel_rfl) rfl #[.agg #[.int .i64 f.kind, .int .i64 f.src, .int .i64 f.tick, .slice Av f.nums.length cv, .string f.data], .agg #[.int .i64 f.kind, .int .i64 f.src, .int .i64 f.tick, .slice B1 m1 c1, .string f.data]] (by rfl) rfl rfl (by (try simp only [List.map_toArray, List.map_cons, List.map_nil]); first | done | rfl) ?_
                    refine (same_calls f.kind f.src f.tick f.kind f.src f.tick _ _ _ _ cv c1 f.nums f.nums f.data f.data _ HH.out.r1 HH.out.r2).mono ?_
                    rintro e w8 ⟨rfl, hb8⟩
                    rw [decide_eq_true ⟨rfl, rfl, rfl, rfl, rfl⟩]
                    refine ⟨_, rfl, ?_⟩
                    replace HH := Lib.hid (HH.out.below hb8)
                    clear hb8
                    refine hK.out _ _ HH.out.cells (fun hHeld => ?_)
                    clear hK K
                    refine norm_ (a' := ?_) ?_ ?_
                    rotate_left
                    · show Act.put _ (some 124) _ = _
                      simp only [Act.put, List.setIfInBounds_toArray, List.set_cons_zero, List.set_cons_succ, i64_w, i32_w]
                      rfl
                    refine pure_ (i := 11) (N := some 125) (v := ?_) (a' := ?_) #[true, true, true, true, true, true, true, true, true, true, true, true, false] rfl rfl (any_of HT_.out (by kernel_rfl)) (fun _ _ _ h => h) (Or.inl ⟨by rfl, ?_⟩) ?_ ?_
                    rotate_left
                    · intro w'
                      go_simp
                      with_reducible rfl
                    rotate_left
                    · simp only [Act.put, List.setIfInBounds_toArray, List.set_cons_zero, List.set_cons_succ, i64_w, i32_w]
                      rfl
                    refine pure_ (i := 12) (N := some 126) (v := ?_) (a' := ?_) #[true, true, true, true, true, true, true, true, true, true, true, true, true] rfl rfl (any_of HT_.out (by kernel_rfl)) (fun _ _ _ h => h) (Or.inl ⟨by rfl, ?_⟩) ?_ ?_
                    rotate_left
                    · intro w'
                      go_simp
                      with_reducible rfl
                    rotate_left
                    · simp only [Act.put, List.setIfInBounds_toArray, List.set_cons_zero, List.set_cons_succ, i64_w, i32_w]
                      rfl
                    refine done_ (done_of HT_.out (by kernel_rfl)) ?_
                    --END
                    have HR8 := HH.out.rdr
                    have HB8 := HH.out.bl
                    clear HH hHeld
                    go_wp2_with fail
                    refine ⟨⟨k2 + 1, p2 + jj + n2, by go_num, HA3.out, HR8, HB8⟩, by simp [intOf]; omega⟩
                --TAILEND
              · have hjm2 : j = m := by omega
                have hq2S := hq2e hjl
                clear hq2z hq2e
                go_wp2_with fail
                rw [← hq2S]
                --COPY
                refine (feed_calls g wr.heap.size 1 (S.extract p q) (S.extract q q2) ((lostN N fs k p : Nat) : Int) _ (heap_old wr _ _ HR.out) (blk_cell (heap_alloc_new wr (.cells #[.string (S.extract q q2)] 9)) 0) (by rw [size_ext, size_ext]; omega)).mono ?_
                rintro e w5 ⟨rfl, hb5, hR5⟩
                rw [ext_join S p q q2 hpq hq2 hqs] at hR5
                have hB5 := below_under (HB.out.alloc HB.out.size _) hgw hb5
                have HI1 : Hid (NInv N fs g q2 w (.int .i64 k) w5) := Lib.hid ⟨k, p, rfl, ⟨HA.out.kl, by omega, by rw [← HS.out]; exact hq2m, HA.out.lo, HA.out.hi⟩, by rw [← HS.out]; exact hR5, hB5⟩
                clear hb5 hR5 hB5
                go_wp2_with fail
                go_loopw [13] (fun kk W => NInv N fs g q2 w kk W) (fun kk _ => fs.length - (intOf kk).toNat)
                case atStart => exact HI1.out
                case round =>
                  obtain ⟨k2, p2, rfl, hat2, hR2, hB2⟩ := hrel
                  rw [← HS.out] at hR2
                  obtain ⟨jj, r, st⟩ := step N fs k2 p2 q2 HN.out (fun f hf => ⟨(HK.out f hf).1.1, (HK.out f hf).2⟩) hat2
                  have hlo2 := hat2.lo
                  have hpq2 := hat2.pq
                  have hkl2 := hat2.kl
                  have hll := lost_le N fs k2 p2 h3 (by omega) (by omega)
                  have hbs : (S.extract p2 q2).size = q2 - p2 := by rw [size_ext]; omega
                  have hjl2 := st.jl
                  have hno := st.noise
                  have hgo := st.got
                  rw [← HS.out] at hno hgo
                  have HR2 := Lib.hid hR2
                  have HB2 := Lib.hid hB2
                  clear hat2 hR2 hB2
                  rcases st.what with ⟨hr, hat3, hfin⟩ | ⟨f, n2, hfk, hr, hle, hat3, hs1, hs2⟩
                  · have HX := Lib.hid (next_calls g (S.extract p2 q2) ((lostN N fs k2 p2 : Nat) : Int) jj r wr HR2.out (by omega) (by omega) (by omega) hno hgo (.inl (by rw [hr])))
                    have HA3 := Lib.hid hat3
                    have HFin := Lib.hid hfin
                    clear hno hgo st hat3 hfin
                    go_wp2_with fail
                    refine HX.out.mono ?_
                    rintro e w6 (⟨_, rfl, hR6, hB6⟩ | ⟨h0, _⟩)
                    rotate_left
                    · rw [hr] at h0; exact absurd h0 (by simp)
                    rw [hbs, ext_gen, show min (p2 + (q2 - p2)) q2 = q2 from by omega, lost_more N fs k2 p2 jj hlo2, HS.out] at hR6
                    have HR6 := Lib.hid hR6
                    have HB6 := Lib.hid (below_under HB2.out hgw hB6)
                    clear hR6 hB6
                    go_wp2_with fail
                    rw [← hq2S]
                    refine ⟨⟨k2, p2 + jj, q2, j + 1, rfl, rfl, by go_num, by omega, HA3.out, heap_old w6 _ _ HR6.out, HB6.out.alloc HB6.out.size _, fun h => ?_⟩, by simp [intOf]; omega⟩
                    have := HFin.out
                    rw [← HS.out] at this ⊢
                    omega
                  · obtain ⟨ad, hA, hel⟩ := HF.out.2.2 (by have := (List.getElem?_eq_some_iff.1 hfk).1; have := HF.out.1; omega)
                    obtain ⟨B1, m1, c1, hfr⟩ := hel k2 f hfk
                    have hk2l := (List.getElem?_eq_some_iff.1 hfk).1
                    have hk2n : k2 < n := by omega
                    have hge1 : decide ((n : Int) ≤ (k2 : Int)) = false := decide_eq_false (by omega)
                    have hge2 : decide (n ≤ k2) = false := decide_eq_false (by omega)
                    have HX := Lib.hid (next_calls g (S.extract p2 q2) ((lostN N fs k2 p2 : Nat) : Int) jj r wr HR2.out (by omega) (by omega) (by omega) hno hgo (.inr (by rw [hr]; exact ⟨rfl, n2, rfl, by omega⟩)))
                    have HA3 := Lib.hid hat3
                    have HFr := Lib.hid hfr
                    subst hA
                    clear hno hgo st hat3 hel hfr
                    go_wp2_with fail
                    refine HX.out.mono ?_
                    rintro e w6 (⟨h0, _⟩ | ⟨_, v, rfl, ho6, hR6, hB6⟩)
                    · rw [hr] at h0; exact absurd h0 (by simp)
                    rw [hr] at hR6 ho6
                    rw [hr]
                    dsimp only at hR6 ho6 ⊢
                    rw [hbs, ext_gen, show min (p2 + (q2 - p2)) q2 = q2 from by omega, Int.toNat_natCast, ← Nat.add_assoc, lost_next N fs k2 p2 jj n2 hlo2 hs1 hs2, HS.out] at hR6
                    obtain ⟨Av, cv, hv⟩ := own_slice ho6
                    subst hv
                    have HR6 := Lib.hid hR6
                    have HB6 := Lib.hid (below_under HB2.out hgw hB6)
                    have HFr6 := Lib.hid (HFr.out.below HB6.out)
                    obtain ⟨A', c', he, hrd⟩ := own_reads ho6
                    injection he with he1 he2 he3
                    subst he1
                    clear he2 he3 c'
                    have Hrd := Lib.hid (fun x : Array Value => hrd.below (below_alloc (Below.refl _ w6) (.cells x 26)))
                    have Hrd2 := Lib.hid (fun x : Array Value => HFr6.out.reads.below (below_alloc (Below.refl _ w6) (.cells x 26)))
                    have q0 := HFr6.out.c0
                    have q1 : w6.cell? ⟨(ad.add (k2 * 5)).block, (ad.add (k2 * 5)).off + 1, none⟩ = some (.int .i64 f.src) := HFr6.out.c1
                    have q2' : w6.cell? ⟨(ad.add (k2 * 5)).block, (ad.add (k2 * 5)).off + 2, none⟩ = some (.int .i64 f.tick) := HFr6.out.c2
                    have q3 : w6.cell? ⟨(ad.add (k2 * 5)).block, (ad.add (k2 * 5)).off + 3, none⟩ = some (.slice B1 m1 c1) := HFr6.out.c3
                    have q4 : w6.cell? ⟨(ad.add (k2 * 5)).block, (ad.add (k2 * 5)).off + 4, none⟩ = some (.string f.data) := HFr6.out.c4
                    have hadl := World.block_lt_of_cell? w6 _ q0
                    clear hR6 hB6 hrd ho6
                    obtain ⟨W7, hW7⟩ : ∃ W7, W7 = w6.alloc (.cells #[.int .i64 f.kind, .int .i64 f.src, .int .i64 f.tick, .slice Av f.nums.length cv, .string f.data] 26) := ⟨_, rfl⟩
                    have HH : Hid (RgW w g ((strm N fs).extract (p2 + jj + n2) q2) ((lostN N fs (k2 + 1) (p2 + jj + n2) : Nat) : Int) (ad.add (k2 * 5)) w6.heap.size f Av cv B1 m1 c1 W7) := by
                      rw [hW7]
                      exact Lib.hid ⟨twoF_new w6 _ f Av cv B1 m1 c1 q0 q1 q2' q3 q4, Hrd.out _, Hrd2.out _, heap_old w6 _ _ HR6.out, HB6.out.alloc HB6.out.size _⟩
                    clear q0 q1 q2' q3 q4 Hrd Hrd2 HR6 HB6 HFr6
                    go_wp2_with fail
                    rw [← hW7]
                    clear hW7
                    --BEGIN
                    refine start_ (n := 13) (S := fun w' => TwoF (ad.add (k2 * 5)) w6.heap.size f Av cv B1 m1 c1 w') (ds := []) #[false, false, false, false, false, false, false, false, false, false, false, false, false] (by kernel_rfl) rfl rfl HH.out.drew.cells (fun hHeld => ?_); refine with_tabW pieces.tab28 pieces.bits28 (fun HT_ HW_ => ?_)
                    replace HH := Lib.hid HH.out.drew
                    generalize W7.drew = w7 at HH hHeld ⊢
                    refine pure_ (i := 0) (N := some 114) (v := ?_) (a' := ?_) #[true, false, false, false, false, false, false, false, false, false, false, false, false] rfl rfl (any_of HT_.out (by kernel_rfl)) (fun _ _ _ h => h) (Or.inl ⟨by rfl, ?_⟩) ?_ ?_
                    rotate_left
                    · intro w'
                      go_simp
                      with_reducible rfl
                    rotate_left
                    · simp only [Act.put, List.setIfInBounds_toArray, List.set_cons_zero, List.set_cons_succ, i64_w, i32_w]
                      rfl
                    refine pure_ (i := 1) (N := some 115) (v := ?_) (a' := ?_) #[true, true, false, false, false, false, false, false, false, false, false, false, false] rfl rfl (any_of HT_.out (by kernel_rfl)) (fun _ _ _ h => h) (Or.inl ⟨by rfl, ?_⟩) ?_ ?_
                    rotate_left
                    · intro w'
                      go_simp
                      with_reducible rfl
                    rotate_left
                    · simp only [Act.put, List.setIfInBounds_toArray, List.set_cons_zero, List.set_cons_succ, i64_w, i32_w]
                      rfl
                    refine pure_ (i := 2) (N := some 116) (v := ?_) (a' := ?_) #[true, true, true, false, false, false, false, false, false, false, false, false, false] rfl rfl (any_of HT_.out (by kernel_rfl)) (fun _ _ _ h => h) (Or.inl ⟨by rfl, ?_⟩) ?_ ?_
                    rotate_left
                    · intro w'
                      go_simp
                      with_reducible rfl
                    rotate_left
                    · simp only [Act.put, List.setIfInBounds_toArray, List.set_cons_zero, List.set_cons_succ, i64_w, i32_w]
                      rfl
                    refine pure_ (i := 3) (N := some 117) (v := ?_) (a' := ?_) #[true, true, true, true, false, false, false, false, false, false, false, false, false] rfl rfl (any_of HT_.out (by kernel_rfl)) (fun _ _ _ h => h) (Or.inl ⟨by rfl, ?_⟩) ?_ ?_
                    rotate_left
                    · intro w'
                      refine Eq.trans (b := Result.ok (Next.value (.bool false)) w') ?_ ?_
                      rotate_left
                      · with_reducible rfl
                      · go_simp
                        all_goals first | done | omega | (rw [hge1]) | (rw [hge2])
                    rotate_left
                    · simp only [Act.put, List.setIfInBounds_toArray, List.set_cons_zero, List.set_cons_succ, i64_w, i32_w]
                      rfl
                    refine pure_ (i := 4) (N := some 118) (v := ?_) (a' := ?_) #[true, true, true, true, true, false, false, false, false, false, false, false, false] rfl rfl (any_of HT_.out (by kernel_rfl)) (fun _ _ _ h => h) (Or.inl ⟨by rfl, ?_⟩) ?_ ?_
                    rotate_left
                    · intro w'
                      go_simp
                      with_reducible rfl
                    rotate_left
                    · simp only [Act.put, List.setIfInBounds_toArray, List.set_cons_zero, List.set_cons_succ, i64_w, i32_w]
                      rfl
                    refine pure_ (i := 6) (N := some 120) (v := ?_) (a' := ?_) #[true, true, true, true, true, false, true, false, false, false, false, false, false] rfl rfl (any_of HT_.out (by kernel_rfl)) (fun _ _ _ h => h) (Or.inl ⟨by rfl, ?_⟩) ?_ ?_
                    rotate_left
                    · intro w'
                      go_simp
                      with_reducible rfl
                    rotate_left
                    · simp only [Act.put, List.setIfInBounds_toArray, List.set_cons_zero, List.set_cons_succ, i64_w, i32_w]
                      rfl
                    refine pure_ (i := 7) (N := some 121) (v := ?_) (a' := ?_) #[true, true, true, true, true, false, true, true, false, false, false, false, false] rfl rfl (any_of HT_.out (by kernel_rfl)) (fun _ _ _ h => h) (Or.inl ⟨by rfl, ?_⟩) ?_ ?_
                    rotate_left
                    · intro w'
                      go_simp
                      with_reducible rfl
                    rotate_left
                    · simp only [Act.put, List.setIfInBounds_toArray, List.set_cons_zero, List.set_cons_succ, i64_w, i32_w]
                      rfl
                    refine pure_ (i := 8) (N := some 122) (v := ?_) (a' := ?_) #[true, true, true, true, true, false, true, true, true, false, false, false, false] rfl rfl (any_of HT_.out (by kernel_rfl)) (fun _ _ _ h => h) (Or.inl ⟨by rfl, ?_⟩) ?_ ?_
                    rotate_left
                    · intro w'
                      go_simp
                      with_reducible rfl
                    rotate_left
                    · simp only [Act.put, List.setIfInBounds_toArray, List.set_cons_zero, List.set_cons_succ, i64_w, i32_w]
                      rfl
                    refine take_ (i := 5) (N := some 119) (v := ?_) (a' := ?_) #[true, true, true, true, true, true, true, true, true, false, false, false, false] rfl rfl (take_ofW HT_.out HW_.out (by kernel_rfl)) (fun _ _ _ h => h) (Or.inl ⟨by rfl, ?_⟩) hHeld ?_ ?_
                    rotate_left
                    · rintro w' ⟨h0, h1, h2, h3, h4, h5, h6, h7, h8, h9⟩
                      go_simp
                      with_reducible rfl
                    rotate_left
                    · simp only [Act.put, List.setIfInBounds_toArray, List.set_cons_zero, List.set_cons_succ, i64_w, i32_w]
                      rfl
                    refine take_ (i := 9) (N := some 123) (v := ?_) (a' := ?_) #[true, true, true, true, true, true, true, true, true, true, false, false, false] rfl rfl (take_ofW HT_.out HW_.out (by kernel_rfl)) (fun _ _ _ h => h) (Or.inl ⟨by rfl, ?_⟩) hHeld ?_ ?_
                    rotate_left
                    · rintro w' ⟨h0, h1, h2, h3, h4, h5, h6, h7, h8, h9⟩
                      go_simp
                      with_reducible rfl
                    rotate_left
                    · simp only [Act.put, List.setIfInBounds_toArray, List.set_cons_zero, List.set_cons_succ, i64_w, i32_w]
                      rfl
                    refine one_ (i := 10) (N := some 124) #[true, true, true, true, true, true, true, true, true, true, true, false, false] rfl rfl (one_of HT_.out (by kernel_rfl)) (by decide) (fun K hK => ?_)
                    refine goes_ Try.func11 (by kernel_rfl) rfl #[.agg #[.int .i64 f.kind, .int .i64 f.src, .int .i64 f.tick, .slice Av f.nums.length cv, .string f.data], .agg #[.int .i64 f.kind, .int .i64 f.src, .int .i64 f.tick, .slice B1 m1 c1, .string f.data]] (by rfl) rfl rfl (by (try simp only [List.map_toArray, List.map_cons, List.map_nil]); first | done | rfl) ?_
                    refine (same_calls f.kind f.src f.tick f.kind f.src f.tick _ _ _ _ cv c1 f.nums f.nums f.data f.data _ HH.out.r1 HH.out.r2).mono ?_
                    rintro e w8 ⟨rfl, hb8⟩
                    rw [decide_eq_true ⟨rfl, rfl, rfl, rfl, rfl⟩]
                    refine ⟨_, rfl, ?_⟩
                    replace HH := Lib.hid (HH.out.below hb8)
                    clear hb8
                    refine hK.out _ _ HH.out.cells (fun hHeld => ?_)
                    clear hK K
                    refine norm_ (a' := ?_) ?_ ?_
                    rotate_left
                    · show Act.put _ (some 124) _ = _
                      simp only [Act.put, List.setIfInBounds_toArray, List.set_cons_zero, List.set_cons_succ, i64_w, i32_w]
                      rfl
                    refine pure_ (i := 11) (N := some 125) (v := ?_) (a' := ?_) #[true, true, true, true, true, true, true, true, true, true, true, true, false] rfl rfl (any_of HT_.out (by kernel_rfl)) (fun _ _ _ h => h) (Or.inl ⟨by rfl, ?_⟩) ?_ ?_
                    rotate_left
                    · intro w'
                      go_simp
                      with_reducible rfl
                    rotate_left
                    · simp only [Act.put, List.setIfInBounds_toArray, List.set_cons_zero, List.set_cons_succ, i64_w, i32_w]
                      rfl
                    refine pure_ (i := 12) (N := some 126) (v := ?_) (a' := ?_) #[true, true, true, true, true, true, true, true, true, true, true, true, true] rfl rfl (any_of HT_.out (by kernel_rfl)) (fun _ _ _ h => h) (Or.inl ⟨by rfl, ?_⟩) ?_ ?_
                    rotate_left
                    · intro w'
                      go_simp
                      with_reducible rfl
                    rotate_left
                    · simp only [Act.put, List.setIfInBounds_toArray, List.set_cons_zero, List.set_cons_succ, i64_w, i32_w]
                      rfl
                    refine done_ (done_of HT_.out (by kernel_rfl)) ?_
                    --END
                    have HR8 := HH.out.rdr
                    have HB8 := HH.out.bl
                    clear HH hHeld
                    go_wp2_with fail
                    refine ⟨⟨k2 + 1, p2 + jj + n2, by go_num, HA3.out, HR8, HB8⟩, by simp [intOf]; omega⟩
                --COPYEND
            · have hjm2 : j = m + 1 := by omega
              obtain ⟨he1, he2⟩ := HE.out hjm2
              go_wp2_with fail
              refine (alive_calls _).mono ?_
              rintro e w9 ⟨rfl, hb⟩
              have hR9 := HR.out.below hb (by have := blk_lt HR.out; omega)
              have hp : lostN N fs k p = N.size * n := by
                have h4 := HA.out.lo
                have h5 := HA.out.pq
                rw [he2, List.take_length, ← HS.out] at h4
                unfold lostN
                rw [he2, List.take_length, ← HS.out, hfl, show p - S.size = 0 from by omega, Nat.add_zero]
              rw [hp] at hR9
              have hmul := Nat.mul_le_mul h3 h1
              have HR9 := Lib.hid hR9
              clear hR9
              rw [Int.natCast_mul] at HR9
              have hmul2 : (0 : Int) ≤ (N.size : Int) * (n : Int) ∧ (N.size : Int) * (n : Int) ≤ 480 := by rw [← Int.natCast_mul]; omega
              have hkn : k = n := by omega
              subst hkn
              clear he2 hp hmul hfl
              go_wp2_with (go_at_call 36; refine (lost_calls g _ _ _ HR9.out).mono ?_; rintro e w8 ⟨rfl, rfl⟩)
              go_ret
              exact ⟨rfl, below_then HB.out HB.out.size hb⟩
end Go.Proofs.Ytlkdehflipfpbaa
