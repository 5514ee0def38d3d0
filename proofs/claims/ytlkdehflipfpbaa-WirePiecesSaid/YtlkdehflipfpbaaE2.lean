import Derived.Test.YtlkdehflipfpbaaE1
import Derived.Test.YtlkdehflipfpbaaB6
namespace Go.Proofs.Ytlkdehflipfpbaa
open Go.RowKit Go.Proofs.YtlkdehflipfpbaaW.PrintWords

def Rdr (g : Nat) (b : ByteArray) (l : Int) (W : World) : Prop := W.heap[g]? = some (.cells #[.string b, .int .i64 l] 66 (0, 0))
theorem Rdr.cell0 {g : Nat} {b : ByteArray} {l : Int} {W : World} (h : Rdr g b l W) : W.cell? ⟨g, 0, none⟩ = some (.string b) := blk_cell h 0
theorem Rdr.cell1 {g : Nat} {b : ByteArray} {l : Int} {W : World} (h : Rdr g b l W) : W.cell? ⟨g, 1, none⟩ = some (.int .i64 l) := blk_cell h 1
theorem Rdr.fz (i : Nat) {g : Nat} {b : ByteArray} {l : Int} {W : World} (h : Rdr g b l W) : W.frozen? ⟨g, i, none⟩ = false := blk_frozen h i
theorem Rdr.put0 {g : Nat} {b b' : ByteArray} {l : Int} {W : World} (h : Rdr g b l W) : Rdr g b' l (W.setCell ⟨g, 0, none⟩ (.string b')) := blk_put (cs' := #[.string b', .int .i64 l]) h 0 _ rfl
theorem Rdr.put1 {g : Nat} {b : ByteArray} {l l' : Int} {W : World} (h : Rdr g b l W) : Rdr g b l' (W.setCell ⟨g, 1, none⟩ (.int .i64 l')) := blk_put (cs' := #[.string b, .int .i64 l']) h 1 _ rfl
theorem Rdr.below {n g : Nat} {b : ByteArray} {l : Int} {W W' : World} (h : Rdr g b l W) (hb : Below n W W') (hg : g < n) : Rdr g b l W' := (hb.block g hg).trans h

set_option maxRecDepth 100000 in
set_option maxHeartbeats 1000000 in
theorem join_calls (g o c : Nat) (s sep : ByteArray) (w : World) (h : w.cell? ⟨g, o, none⟩ = some (.string s)) :
    Calls Try.prog 78 #[.slice (some ⟨g, o, none⟩) 1 c, .string sep] w fun e w' => e = .returned (.string s) ∧ w = w' := by
  go_enter Try.func78, Try.ntmps78
  go_wp2_with fail
  go_ret
  exact ⟨rfl, rfl⟩

set_option maxRecDepth 100000 in
set_option maxHeartbeats 1000000 in
theorem lost_calls (g : Nat) (b : ByteArray) (l : Int) (w : World) (h : Rdr g b l w) :
    Calls Try.prog 36 #[.pointer (some ⟨g, 0, none⟩)] w fun e w' => e = .returned (.int .i64 l) ∧ w = w' := by
  have c1 := h.cell1
  go_enter Try.func36, Try.ntmps36
  go_wp2_with fail
  go_ret
  exact ⟨rfl, rfl⟩

set_option maxRecDepth 100000 in
set_option maxHeartbeats 1000000 in
theorem feed_calls (g h c : Nat) (b s : ByteArray) (l : Int) (w : World) (hR : Rdr g b l w) (hc : w.cell? ⟨h, 0, none⟩ = some (.string s)) (hs : b.size + s.size ≤ 1000000) :
    Calls Try.prog 34 #[.pointer (some ⟨g, 0, none⟩), .slice (some ⟨h, 0, none⟩) 1 c] w fun e w' => e = .returned (.tuple #[]) ∧ Below g w w' ∧ Rdr g (b ++ s) l w' := by
  have hadd : ∀ W : World, (Op.stringOp .add b s).run Try.prog W = .ok (.string (b ++ s)) W := fun W => run_string_add_sum (P := Try.prog) (w := W) b s (by omega)
  have HR := Lib.hid hR
  have HC := Lib.hid hc
  have c0 := hR.cell0
  have f0 := hR.fz 0
  have hlt := blk_lt hR
  clear hR hc
  go_enter Try.func34, Try.ntmps34
  go_wp2_with fail
  go_region_with (go_at_call 78; refine (join_calls h 0 c s _ w.drew HC.out).mono ?_; rintro e w8 ⟨rfl, rfl⟩)
  all_goals
    go_wp2_with fail
    go_end0
    exact ⟨rfl, ((Below.refl g w).setCell (p := ⟨g, 0, none⟩) (Nat.le_refl g) _).drew, HR.out.put0⟩
end Go.Proofs.Ytlkdehflipfpbaa
