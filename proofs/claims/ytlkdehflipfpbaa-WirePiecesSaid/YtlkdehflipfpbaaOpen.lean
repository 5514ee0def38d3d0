import Derived.Test.YtlkdehflipfpbaaWWords
import Derived.WalkKit
import Derived.ProofKit
import Derived.OpenShut
import Derived.ShutString
import Derived.ChangeOld
import Derived.Below
import Derived.SizedLaws
import Derived.Deep.Slices
import Derived.Lib.SmallJoins
/-! Arguments opened to what their cells hold, kind by kind: no word of the program. -/
namespace Go.Proofs.Ytlkdehflipfpbaa.Open
open Go.ChangeShapes Go.WideShapes Go.ChangeAt Go.RowKit Go.Deep Go.Proofs.YtlkdehflipfpbaaW.PrintWords
variable {H : Type} {enc : TypeId × Value → H} {P : Program} {w : World} {base : Nat} {spare : Nat → Bool} {held : Bool}

theorem op_int {t : TypeId} {k : IntKind} {fuel : Nat} {cs : List Value} {x : DataW H × List MemPlace} (ht : P.underlying t = some (.int k)) (h : DataW.trod enc P w base spare held fuel t cs = some x) : ∃ n, cs = [.int k n] ∧ (Lit.int k n).wf = true := by
  obtain ⟨n, h1, _, h2⟩ := DataW.trod_int ht h
  exact ⟨n, h1, h2⟩
theorem op_string {t : TypeId} {fuel : Nat} {cs : List Value} {x : DataW H × List MemPlace} (ht : P.underlying t = some .string) (h : DataW.trod enc P w base spare held fuel t cs = some x) : ∃ s : ByteArray, cs = [.string s] ∧ s.size ≤ maxLen := by
  obtain ⟨s, h1, _, h2⟩ := DataW.trod_string ht h
  exact ⟨s, h1, h2⟩
theorem op_bool {t : TypeId} {fuel : Nat} {cs : List Value} {x : DataW H × List MemPlace} (ht : P.underlying t = some .bool) (h : DataW.trod enc P w base spare held fuel t cs = some x) : ∃ b, cs = [.bool b] := by
  obtain ⟨s, h1, _⟩ := DataW.trod_bool ht h
  exact ⟨s, h1⟩
/-- A slice: what its elements' cells read as. -/
theorem op_slice {t e : TypeId} {fuel : Nat} {cs : List Value} {x : DataW H × List MemPlace} (ht : P.underlying t = some (.slice e)) (h : DataW.trod enc P w base spare held fuel t cs = some x) :
    ∃ A len cap, cs = [.slice A len cap] ∧ len ≤ cap ∧ cap ≤ maxLen ∧ (0 < len → ∃ ad, A = some ad ∧ ∀ i, i < len → ∃ cs' n y, (∀ j, j < P.cellsOf e → w.cell? ((ad.add (i * P.cellsOf e)).add j) = cs'[j]?) ∧ cs'.length = P.cellsOf e ∧ DataW.trod enc P w base spare held n e cs' = some y) := by
  rcases open_slice ht h with ⟨h0, _⟩ | ⟨a, len, cap, m, n, D, Pl, hcs, _, hl, hm, hmm, _, hi⟩
  · exact ⟨none, 0, 0, h0, Nat.le_refl _, by simp, fun hp => absurd hp (by omega)⟩
  · refine ⟨some a, len, cap, hcs, hl, hm, fun _ => ⟨a, rfl, fun i him => ?_⟩⟩
    obtain ⟨cs', hc, ht'⟩ := hi i (by rw [hmm]; split <;> omega)
    obtain ⟨_, hcl, hat⟩ := World.cells?_some hc
    exact ⟨cs', n, _, fun j hj => hat j hj, hcl, ht'⟩
/-- A slice of whole numbers. -/
theorem op_ints {t e : TypeId} {k : IntKind} {fuel : Nat} {cs : List Value} {x : DataW H × List MemPlace} (ht : P.underlying t = some (.slice e)) (he : P.underlying e = some (.int k)) (hc : P.cellsOf e = 1) (h : DataW.trod enc P w base spare held fuel t cs = some x) :
    ∃ A len cap zs, cs = [.slice A len cap] ∧ len ≤ cap ∧ cap ≤ maxLen ∧ ReadsInt w k A len zs ∧ ∀ z ∈ zs, (Lit.int k z).wf = true := by
  obtain ⟨A, len, cap, rfl, hl, hm, hel⟩ := op_slice ht h
  have hex : ∃ zs : List Int, zs.length = len ∧ (0 < len → ∃ ad, A = some ad ∧ ∀ i, i < len → w.cell? (ad.add i) = some (.int k (zs.getD i 0))) ∧ ∀ z ∈ zs, (Lit.int k z).wf = true := by
    rcases Nat.eq_zero_or_pos len with h0 | h0
    · exact ⟨[], by simp [h0], fun hp => absurd hp (by omega), by simp⟩
    · obtain ⟨ad, hA, hi⟩ := hel h0
      have hi' : ∀ i, ∃ z : Int, i < len → w.cell? (ad.add i) = some (.int k z) ∧ (Lit.int k z).wf = true := by
        intro i
        by_cases hlt : i < len
        · obtain ⟨cs', n, y, hcell, hlen, htr⟩ := hi i hlt
          obtain ⟨z, rfl, hw⟩ := op_int he htr
          have := hcell 0 (by rw [hc]; omega)
          rw [hc, Nat.mul_one] at this
          have e0 : (ad.add i).add 0 = ad.add i := by simp [Addr.add]
          rw [e0] at this
          exact ⟨z, fun _ => ⟨this, hw⟩⟩
        · exact ⟨0, fun hh => absurd hh hlt⟩
      obtain ⟨f, hf⟩ : ∃ f : Nat → Int, ∀ i, i < len → w.cell? (ad.add i) = some (.int k (f i)) ∧ (Lit.int k (f i)).wf = true := ⟨fun i => Classical.choose (hi' i), fun i => Classical.choose_spec (hi' i)⟩
      refine ⟨(List.range len).map f, by simp, fun _ => ⟨ad, hA, fun i hlt => ?_⟩, fun z hz => ?_⟩
      · rw [(hf i hlt).1]
        simp [List.getD_eq_getElem?_getD, hlt]
      · simp only [List.mem_map, List.mem_range] at hz
        obtain ⟨i, hlt, rfl⟩ := hz
        exact (hf i hlt).2
  obtain ⟨zs, h1, h2, h3⟩ := hex
  refine ⟨A, len, cap, zs, rfl, hl, hm, ⟨h1, by unfold maxLen at hm; omega, h2⟩, h3⟩
/-- A struct's field. -/
theorem op_field {t : TypeId} {fs : Array Field} {fuel : Nat} {cs : List Value} {x : DataW H × List MemPlace} (ht : P.underlying t = some (.struct fs)) (h : DataW.trod enc P w base spare held fuel t cs = some x) :
    cs.length = P.cellsOf t ∧ ∀ (i : Nat) (f : Field), fs[i]? = some f → ∃ n y, DataW.trod enc P w base spare held n f.type ((cs.drop f.offset).take (P.cellsOf f.type)) = some y := by
  obtain ⟨xs, n, _, _, hl, hx, hf⟩ := DataW.trod_struct ht h
  refine ⟨hl, fun i f hi => ⟨n, ?_⟩⟩
  rw [hf i f hi]
  have : i < fs.size := (Array.getElem?_eq_some_iff.1 hi).1
  exact ⟨xs[i]'(by omega), List.getElem?_eq_getElem (by omega)⟩
theorem op_part {t : TypeId} {fs : Array Field} {fuel : Nat} {cs : List Value} {x : DataW H × List MemPlace} (ht : P.underlying t = some (.struct fs)) (h : DataW.trod enc P w base spare held fuel t cs = some x)
    (i : Nat) {f : Field} (hi : fs[i]? = some f) {T k : Nat} (hT : f.type = T) (hk : P.cellsOf T = k) {l : List Value} (hl : (cs.drop f.offset).take k = l) : ∃ n y, DataW.trod enc P w base spare held n T l = some y := by
  obtain ⟨n, y, g⟩ := (op_field ht h).2 i f hi
  rw [hT, hk, hl] at g
  exact ⟨n, y, g⟩
theorem wf_i64 {n : Int} (h : (Lit.int .i64 n).wf = true) : -9223372036854775808 ≤ n ∧ n ≤ 9223372036854775807 := by
  simp [Lit.wf, IntKind.min, IntKind.max, IntKind.signed, IntKind.bits] at h
  omega
theorem len5 {l : List Value} (h : l.length = 5) : ∃ a b c d e, l = [a, b, c, d, e] := by
  match l, h with
  | [a, b, c, d, e], _ => exact ⟨a, b, c, d, e, rfl⟩
theorem len2 {l : List Value} (h : l.length = 2) : ∃ a b, l = [a, b] := by
  match l, h with
  | [a, b], _ => exact ⟨a, b, rfl⟩
end Go.Proofs.Ytlkdehflipfpbaa.Open
