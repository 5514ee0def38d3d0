/-
  No cell of these rows narrows 'for every input' (looked for: loops, veiled, ifaces, maps, wideKeys, modest, calm, conditions, laid).
  DERIVED. THE GIVEN ROWS OF THIS SEAT. 5 by the template 'for every input the law returns true; each argument reads behind the call as it read before'; 0 by the template 'total and deterministic' (their statements: YtlkdehflipfpbaaTotals.lean).
  GIVEN WITH THE SEED: the statements are not yours to turn. If you find one false, say at which input.
  Laid BY PROGRAM, IN A SANDBOX (cutbox-rows.mjs): the forced cells as the released guide's own fill.sh prints them over the translation ef818dc1ae876866… (all of the seat's roots in one cut). By AI agents, Wed Nov 11 2026. No macro, syntax, notation, axiom, sorry.
-/
import Derived.Test.YtlkdehflipfpbaaChecked
import GoSem.Claim
import GoSem.ClaimJoined
import GoSem.ClaimMapViews
import Derived.JoinedTies
import Derived.KernelRfl
namespace Go.Proofs.Ytlkdehflipfpbaa
/- THE CELL 'sum', in the pinned program and in every row, IS THE sha256 OF THE DUMP (.gsa) THAT YtlkdehflipfpbaaProg.lean LOADS. Nothing in Lean hashes anything: it is a label: what it is worth is what the hold of that sum in a sandbox is worth. -/
noncomputable def Try.pinned : Pinned := { name := "ytlkdehflipfpbaa", sum := "ef818dc1ae876866ee8404b56d9cdc6c025dbb57303d72556ce8586d71663235", checked := Try.checked }
namespace Rows
def none {H : Type} : Left H := { results := [], args := [] }

/-- 'picketlaw4.WireBack': WHATEVER THE INPUT: true; the input reads as it did. -/
def wireBackSpec : ChangeSpec := { name := "wireBack", fn := fun _ => fun
  | [d1, d2, d3] => { results := [.lit (.bool true)], args := [d1, d2, d3] }
  | _ => none }
def wireBackRow : OpenClaim := { program := "ytlkdehflipfpbaa", sum := "ef818dc1ae876866ee8404b56d9cdc6c025dbb57303d72556ce8586d71663235", func := "picket/picketlaw4.WireBack", spec := "wireBack", unfollowed := true, recurses := true, apart := false }
def WireBackSaid : Prop := wireBackRow.holds Try.pinned (OpenSpec.ofChange wireBackSpec)

/-- ITS FALSE NEIGHBOUR: 'it returns false'. Refute it at one input. -/
def wireBackWrong : ChangeSpec := { name := "wireBack", fn := fun _ => fun
  | [d1, d2, d3] => { results := [.lit (.bool false)], args := [d1, d2, d3] }
  | _ => none }
def WireBackWrongFalsely : Prop := wireBackRow.holds Try.pinned (OpenSpec.ofChange wireBackWrong)

/-- 'picketlaw4.WireChanged': WHATEVER THE INPUT: true; the input reads as it did. -/
def wireChangedSpec : ChangeSpec := { name := "wireChanged", fn := fun _ => fun
  | [d1, d2, d3] => { results := [.lit (.bool true)], args := [d1, d2, d3] }
  | _ => none }
def wireChangedRow : OpenClaim := { program := "ytlkdehflipfpbaa", sum := "ef818dc1ae876866ee8404b56d9cdc6c025dbb57303d72556ce8586d71663235", func := "picket/picketlaw4.WireChanged", spec := "wireChanged", unfollowed := true, recurses := true, apart := false }
def WireChangedSaid : Prop := wireChangedRow.holds Try.pinned (OpenSpec.ofChange wireChangedSpec)

/-- ITS FALSE NEIGHBOUR: 'it returns false'. Refute it at one input. -/
def wireChangedWrong : ChangeSpec := { name := "wireChanged", fn := fun _ => fun
  | [d1, d2, d3] => { results := [.lit (.bool false)], args := [d1, d2, d3] }
  | _ => none }
def WireChangedWrongFalsely : Prop := wireChangedRow.holds Try.pinned (OpenSpec.ofChange wireChangedWrong)

/-- 'picketlaw18.AdviseMakes': WHATEVER THE INPUT: true; the input reads as it did. -/
def adviseMakesSpec : ChangeSpec := { name := "adviseMakes", fn := fun _ => fun
  | [d1, d2, d3, d4, d5, d6, d7, d8] => { results := [.lit (.bool true)], args := [d1, d2, d3, d4, d5, d6, d7, d8] }
  | _ => none }
def adviseMakesRow : OpenClaim := { program := "ytlkdehflipfpbaa", sum := "ef818dc1ae876866ee8404b56d9cdc6c025dbb57303d72556ce8586d71663235", func := "picket/picketlaw18.AdviseMakes", spec := "adviseMakes", unfollowed := true, recurses := true, apart := false }
def AdviseMakesSaid : Prop := adviseMakesRow.holds Try.pinned (OpenSpec.ofChange adviseMakesSpec)

/-- ITS FALSE NEIGHBOUR: 'it returns false'. Refute it at one input. -/
def adviseMakesWrong : ChangeSpec := { name := "adviseMakes", fn := fun _ => fun
  | [d1, d2, d3, d4, d5, d6, d7, d8] => { results := [.lit (.bool false)], args := [d1, d2, d3, d4, d5, d6, d7, d8] }
  | _ => none }
def AdviseMakesWrongFalsely : Prop := adviseMakesRow.holds Try.pinned (OpenSpec.ofChange adviseMakesWrong)

/-- 'picketlaw2.SpanReckons': WHATEVER THE INPUT: true; the input reads as it did. -/
def spanReckonsSpec : ChangeSpec := { name := "spanReckons", fn := fun _ => fun
  | [d1, d2, d3, d4, d5] => { results := [.lit (.bool true)], args := [d1, d2, d3, d4, d5] }
  | _ => none }
def spanReckonsRow : OpenClaim := { program := "ytlkdehflipfpbaa", sum := "ef818dc1ae876866ee8404b56d9cdc6c025dbb57303d72556ce8586d71663235", func := "picket/picketlaw2.SpanReckons", spec := "spanReckons", inPlace := ["math/bits.Add64"], apart := false }
def SpanReckonsSaid : Prop := spanReckonsRow.holds Try.pinned (OpenSpec.ofChange spanReckonsSpec)

/-- ITS FALSE NEIGHBOUR: 'it returns false'. Refute it at one input. -/
def spanReckonsWrong : ChangeSpec := { name := "spanReckons", fn := fun _ => fun
  | [d1, d2, d3, d4, d5] => { results := [.lit (.bool false)], args := [d1, d2, d3, d4, d5] }
  | _ => none }
def SpanReckonsWrongFalsely : Prop := spanReckonsRow.holds Try.pinned (OpenSpec.ofChange spanReckonsWrong)

/-- 'picketlaw4.WirePieces': WHATEVER THE INPUT: true; the input reads as it did. -/
def wirePiecesSpec : ChangeSpec := { name := "wirePieces", fn := fun _ => fun
  | [d1, d2, d3] => { results := [.lit (.bool true)], args := [d1, d2, d3] }
  | _ => none }
def wirePiecesRow : OpenClaim := { program := "ytlkdehflipfpbaa", sum := "ef818dc1ae876866ee8404b56d9cdc6c025dbb57303d72556ce8586d71663235", func := "picket/picketlaw4.WirePieces", spec := "wirePieces", inPlace := ["internal/abi.NoEscape", "internal/bytealg.MakeNoZero"], unfollowed := true, recurses := true, apart := false }
def WirePiecesSaid : Prop := wirePiecesRow.holds Try.pinned (OpenSpec.ofChange wirePiecesSpec)

/-- ITS FALSE NEIGHBOUR: 'it returns false'. Refute it at one input. -/
def wirePiecesWrong : ChangeSpec := { name := "wirePieces", fn := fun _ => fun
  | [d1, d2, d3] => { results := [.lit (.bool false)], args := [d1, d2, d3] }
  | _ => none }
def WirePiecesWrongFalsely : Prop := wirePiecesRow.holds Try.pinned (OpenSpec.ofChange wirePiecesWrong)

/- THE SECOND FORM. 'bulk': how many values and letters a reading holds, each counted each time it is reached (what is shared counts as often as it is met; a slice's spare places count too). A statement '..UptoSaid' is the law's where the arguments, and the package variables that the reading takes, are together of bulk at most 1048576: NARROWER than '..Said'. Prove '..Said' where nothing that the law and all that it calls make is longer than what came in: it says more and counts as full. Else prove '..UptoSaid'. A law counts once. -/
mutual
def uptoBulk {H : Type} : DataW H → Nat
  | .lit (.string bytes) => bytes.length + 1
  | .lit _ => 1
  | .nil => 1
  | .ptr d => uptoBulk d + 1
  | .slice elems spare => uptoBulkAll elems + uptoBulkAll spare + 1
  | .agg parts => uptoBulkAll parts + 1
  | .iface _ d => uptoBulk d + 1
  | .map entries => uptoBulkEntries entries + 1
  | .held _ => 1
def uptoBulkAll {H : Type} : List (DataW H) → Nat
  | [] => 0
  | d :: r => uptoBulk d + uptoBulkAll r
def uptoBulkEntries {H : Type} : List (Lit × DataW H) → Nat
  | [] => 0
  | x :: r => uptoBulkEntry x + uptoBulkEntries r
def uptoBulkEntry {H : Type} : Lit × DataW H → Nat
  | (.string bytes, d) => bytes.length + uptoBulk d + 1
  | (_, d) => uptoBulk d + 1
 end
def uptoSmall : (H : Type) → List (DataW H) → Bool := fun _ ds => decide (uptoBulkAll ds ≤ 1048576)
def OpenSpec.upto (s : _root_.Go.ChangeSpec) : _root_.Go.OpenSpec := { _root_.Go.OpenSpec.ofChange s with cond := some uptoSmall }

/-- 'picketlaw4.WireBack', WHERE WHAT IT READS IS OF BULK AT MOST 1048576: true; the input reads as it did. -/
def wireBackUptoRow : OpenClaim := { program := "ytlkdehflipfpbaa", sum := "ef818dc1ae876866ee8404b56d9cdc6c025dbb57303d72556ce8586d71663235", func := "picket/picketlaw4.WireBack", spec := "wireBack", unfollowed := true, recurses := true, apart := false, narrowed := true }
def WireBackUptoSaid : Prop := wireBackUptoRow.holds Try.pinned (OpenSpec.upto wireBackSpec)

/-- 'picketlaw4.WireChanged', WHERE WHAT IT READS IS OF BULK AT MOST 1048576: true; the input reads as it did. -/
def wireChangedUptoRow : OpenClaim := { program := "ytlkdehflipfpbaa", sum := "ef818dc1ae876866ee8404b56d9cdc6c025dbb57303d72556ce8586d71663235", func := "picket/picketlaw4.WireChanged", spec := "wireChanged", unfollowed := true, recurses := true, apart := false, narrowed := true }
def WireChangedUptoSaid : Prop := wireChangedUptoRow.holds Try.pinned (OpenSpec.upto wireChangedSpec)

/-- 'picketlaw18.AdviseMakes', WHERE WHAT IT READS IS OF BULK AT MOST 1048576: true; the input reads as it did. -/
def adviseMakesUptoRow : OpenClaim := { program := "ytlkdehflipfpbaa", sum := "ef818dc1ae876866ee8404b56d9cdc6c025dbb57303d72556ce8586d71663235", func := "picket/picketlaw18.AdviseMakes", spec := "adviseMakes", unfollowed := true, recurses := true, apart := false, narrowed := true }
def AdviseMakesUptoSaid : Prop := adviseMakesUptoRow.holds Try.pinned (OpenSpec.upto adviseMakesSpec)

/-- 'picketlaw2.SpanReckons', WHERE WHAT IT READS IS OF BULK AT MOST 1048576: true; the input reads as it did. -/
def spanReckonsUptoRow : OpenClaim := { program := "ytlkdehflipfpbaa", sum := "ef818dc1ae876866ee8404b56d9cdc6c025dbb57303d72556ce8586d71663235", func := "picket/picketlaw2.SpanReckons", spec := "spanReckons", inPlace := ["math/bits.Add64"], apart := false, narrowed := true }
def SpanReckonsUptoSaid : Prop := spanReckonsUptoRow.holds Try.pinned (OpenSpec.upto spanReckonsSpec)

/-- 'picketlaw4.WirePieces', WHERE WHAT IT READS IS OF BULK AT MOST 1048576: true; the input reads as it did. -/
def wirePiecesUptoRow : OpenClaim := { program := "ytlkdehflipfpbaa", sum := "ef818dc1ae876866ee8404b56d9cdc6c025dbb57303d72556ce8586d71663235", func := "picket/picketlaw4.WirePieces", spec := "wirePieces", inPlace := ["internal/abi.NoEscape", "internal/bytealg.MakeNoZero"], unfollowed := true, recurses := true, apart := false, narrowed := true }
def WirePiecesUptoSaid : Prop := wirePiecesUptoRow.holds Try.pinned (OpenSpec.upto wirePiecesSpec)

end Rows
end Go.Proofs.Ytlkdehflipfpbaa
