import Derived.Test.YtlkdehflipfpbaaE4
namespace Go.Proofs.Ytlkdehflipfpbaa
open Go.RowKit Go.Proofs.YtlkdehflipfpbaaW.PrintWords
set_option maxRecDepth 100000 in
set_option maxHeartbeats 2000000 in
theorem pieces_all (A : Option Addr) (n c : Nat) (fs : List Fr) (N : ByteArray) (B : Option Addr) (m d : Nat) (cs : List Int) (w : World) (hF : FrsAt w A n fs) (hC : ReadsInt w .i64 B m cs) :
    Calls Try.prog 7 #[.slice A n c, .string N, .slice B m d] w fun e w' => e = .returned (.bool true) ∧ Below w.heap.size w w' := by
  by_cases h0 : 12 < n ∨ 60 < m ∨ 40 < N.size
  · clear hF hC
    rcases h0 with h0 | h0 | h0
    all_goals
      go_enter Try.func7, Try.ntmps7
      go_wp2_with (go_at_call 8; refine (alive_calls _).mono ?_; rintro e w1 ⟨rfl, hb⟩)
      all_goals
        go_ret
        exact ⟨rfl, hb⟩
  · exact pieces_walk A n c fs N B m d cs w hF hC (by omega) (by omega) (by omega)
end Go.Proofs.Ytlkdehflipfpbaa
