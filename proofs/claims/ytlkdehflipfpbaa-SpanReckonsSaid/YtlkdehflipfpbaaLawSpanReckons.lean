/- For every two spans, every list of spans, every number and every bool: the law picketlaw2.SpanReckons returns true: every sum, difference and product of spans, and whether it stayed at the ends, are the document's. Conditions: none beyond the row's own. -/
import Derived.Test.YtlkdehflipfpbaaRows
import Derived.Test.YtlkdehflipfpbaaD4
import Derived.Test.YtlkdehflipfpbaaOpenS
namespace Go.Proofs.Ytlkdehflipfpbaa.spanReckons
open Go.ChangeShapes Go.WideShapes Go.ChangeAt Go.RowKit Go.Deep Go.Proofs.Ytlkdehflipfpbaa.Open Go.Proofs.Ytlkdehflipfpbaa.QSpanReckons
open Go.Proofs.YtlkdehflipfpbaaW.PrintWords (ReadsInt)
theorem own : ownKnob Try.prog.godebug = none := by kernel_rfl
theorem laidOut : laidOutB Try.prog = true := by kernel_rfl
section
variable {H : Type} {enc : TypeId × Value → H} {W : World} {base : Nat} {spare : Nat → Bool} {held : Bool}
theorem span_cells {fuel : Nat} {cs : List Value} {x : DataW H × List MemPlace} (hsz : cs.length = 2) (hf : DataW.trod enc Try.prog W base spare held fuel 48 cs = some x) : ∃ s : Sp, cs = [.int .i64 s.f0, .int .i64 s.f1] ∧ inS s := by
  have hCi : Try.prog.cellsOf 3 = 1 := by kernel_rfl
  obtain ⟨a, b, rfl⟩ := len2 hsz
  obtain ⟨_, _, g0⟩ := op_part Try.underlying48 hf 0 rfl rfl hCi (l := [a]) rfl
  obtain ⟨_, _, g1⟩ := op_part Try.underlying48 hf 1 rfl rfl hCi (l := [b]) rfl
  obtain ⟨lo, h0, w0⟩ := op_int Try.underlying3 g0
  obtain ⟨hi, h1, w1⟩ := op_int Try.underlying3 g1
  simp only [List.cons.injEq, and_true] at h0 h1
  subst h0 h1
  exact ⟨⟨lo, hi⟩, rfl, wf_i64 w0, wf_i64 w1⟩
theorem spans_read {fuel : Nat} {cs : List Value} {x : DataW H × List MemPlace} (h : DataW.trod enc Try.prog W base spare held fuel 49 cs = some x) :
    ∃ A cap l, cs = [.slice A l.length cap] ∧ l.length ≤ cap ∧ Go.Proofs.YtlkdehflipfpbaaW.PrintWords.Kd.C k48 W A l.length l ∧ ∀ s ∈ l, inS s := by
  have hC : Try.prog.cellsOf 48 = 2 := by kernel_rfl
  obtain ⟨A, len, cap, rfl, hl, hm, hel⟩ := op_slice Try.underlying49 h
  have hex : ∃ l : List Sp, l.length = len ∧ (0 < len → ∃ ad, A = some ad ∧ ∀ i, (hi : i < l.length) → (∀ j u, [Value.int .i64 l[i].f0, .int .i64 l[i].f1][j]? = some u → W.cell? (ad.add (i * 2 + j)) = some u)) ∧ ∀ s ∈ l, inS s := by
    rcases Nat.eq_zero_or_pos len with h0 | h0
    · exact ⟨[], by simp [h0], fun hp => absurd hp (by omega), by simp⟩
    · obtain ⟨ad, hA, hi⟩ := hel h0
      have hi' : ∀ i, ∃ s : Sp, i < len → inS s ∧ ∀ j u, [Value.int .i64 s.f0, .int .i64 s.f1][j]? = some u → W.cell? (ad.add (i * 2 + j)) = some u := by
        intro i
        by_cases hlt : i < len
        · obtain ⟨cs', n, y, hcell, hlen, htr⟩ := hi i hlt
          rw [hC] at hlen hcell
          obtain ⟨s, rfl, hs⟩ := span_cells hlen htr
          refine ⟨s, fun _ => ⟨hs, fun j u hj => ?_⟩⟩
          have hj2 : j < 2 := by have := (List.getElem?_eq_some_iff.1 hj).1; simpa using this
          have hc := hcell j hj2
          rw [hj] at hc
          have e : (ad.add (i * 2)).add j = ad.add (i * 2 + j) := by
            unfold Addr.add
            by_cases hz : i * 2 = 0 <;> by_cases hj0 : j = 0 <;> simp [hz, hj0, Nat.add_assoc]
          rw [e] at hc
          exact hc
        · exact ⟨⟨0, 0⟩, fun hh => absurd hh hlt⟩
      obtain ⟨f, hf⟩ : ∃ f : Nat → Sp, ∀ i, i < len → inS (f i) ∧ ∀ j u, [Value.int .i64 (f i).f0, .int .i64 (f i).f1][j]? = some u → W.cell? (ad.add (i * 2 + j)) = some u := ⟨fun i => Classical.choose (hi' i), fun i => Classical.choose_spec (hi' i)⟩
      refine ⟨(List.range len).map f, by simp, fun _ => ⟨ad, hA, fun i hlt => ?_⟩, fun s hs => ?_⟩
      · intro j u hj
        simp only [List.getElem_map, List.getElem_range] at hj
        exact (hf i (by simpa using hlt)).2 j u hj
      · simp only [List.mem_map, List.mem_range] at hs
        obtain ⟨i, hlt, rfl⟩ := hs
        exact (hf i hlt).1
  obtain ⟨l, h1, h2, h3⟩ := hex
  subst h1
  refine ⟨A, cap, l, rfl, hl, ⟨rfl, by unfold maxLen at hm; omega, fun hn => ?_⟩, h3⟩
  obtain ⟨ad, hA, hc⟩ := h2 hn
  refine ⟨ad, hA, fun j p hj => ?_⟩
  obtain ⟨hjl, hjp⟩ := List.getElem?_eq_some_iff.1 hj
  subst hjp
  exact ⟨[.int .i64 l[j].f0, .int .i64 l[j].f1], rfl, k48_mk W l[j], hc j hjl⟩
end
set_option maxRecDepth 100000 in
theorem lifted (os : Os) (started : os.Started) (H : Type) (enc : TypeId × Value → H) :
    ReturnsInHanded {} Try.checked os 6 .any (Rows.spanReckonsSpec.pre6 enc Try.prog Try.f6 Rows.spanReckonsRow.domain false) (Rows.spanReckonsSpec.post enc Try.prog Try.f6 false true false false) := by
  refine returnsInHanded_of_change_sized (C := Try.checked) own started (by kernel_rfl) Try.func6
    (ChangeSpec.witness6 (enc := enc) (C := Try.checked) false ⟨#[], #[.agg #[.int .i64 0, .int .i64 0], .agg #[.int .i64 0, .int .i64 0], .slice none 0 0, .int .i64 0, .bool false], []⟩ 8 (by kernel_rfl) (by kernel_rfl) (by kernel_rfl) (by kernel_rfl)) ?_
  intro W base args ds gs before hval0 hW hcnd hsz0 _
  have hval : ∀ (j : Nat) t v, Try.f6.params[j]? = some t → args[j]? = some v → Value.okWide Try.prog W .any base t v := hval0
  have hW' := hW
  obtain ⟨p, q, hA0, hV, rfl, hfz, hnd⟩ := hW
  have hA : DataW.TrodAll enc Try.prog W 0 (fun _ => true) true Try.f6.params.toList args.toList ds p := hA0
  rw [Try.params6] at hA hval
  obtain ⟨v0, vs0, d0, ds0, p0, q0, hargs, rfl, rfl, h0, r0⟩ := trodAll_cons hA
  obtain ⟨v1, vs1, d1, ds1, p1, q1, rfl, rfl, rfl, h1, r1⟩ := trodAll_cons r0
  obtain ⟨v2, vs2, d2, ds2, p2, q2, rfl, rfl, rfl, h2, r2⟩ := trodAll_cons r1
  obtain ⟨v3, vs3, d3, ds3, p3, q3, rfl, rfl, rfl, h3, r3⟩ := trodAll_cons r2
  obtain ⟨v4, vs4, d4, ds4, p4, q4, rfl, rfl, rfl, h4, r4⟩ := trodAll_cons r3
  obtain ⟨rfl, rfl, rfl⟩ := trodAll_nil r4
  obtain rfl : args = #[v0, v1, v2, v3, v4] := by cases args; simp_all
  obtain ⟨rfl, rfl⟩ := trodVars_none hV
  have hC2 : Try.prog.cellsOf 48 = 2 := by kernel_rfl
  have k0 := h0
  have k1 := h1
  have k2 := h2
  have lt0 : ∀ x ∈ p0, x.block < W.heap.size := by obtain ⟨m, hm⟩ := k0; exact DataW.trod_lt m _ _ _ hm
  have lt1 : ∀ x ∈ p1, x.block < W.heap.size := by obtain ⟨m, hm⟩ := k1; exact DataW.trod_lt m _ _ _ hm
  have lt2 : ∀ x ∈ p2, x.block < W.heap.size := by obtain ⟨m, hm⟩ := k2; exact DataW.trod_lt m _ _ _ hm
  have e0 : ∃ s : Sp, v0 = .agg #[.int .i64 s.f0, .int .i64 s.f1] ∧ inS s := by
    obtain ⟨cs, rfl, hsz⟩ := okWide_struct Try.underlying48 (hval 0 48 v0 rfl rfl)
    obtain ⟨fuel, hf⟩ := h0
    obtain ⟨l⟩ := cs
    obtain ⟨s, hs, hin⟩ := span_cells (hsz.trans hC2) hf
    exact ⟨s, by rw [show l = [.int .i64 s.f0, .int .i64 s.f1] from hs], hin⟩
  have e1 : ∃ s : Sp, v1 = .agg #[.int .i64 s.f0, .int .i64 s.f1] ∧ inS s := by
    obtain ⟨cs, rfl, hsz⟩ := okWide_struct Try.underlying48 (hval 1 48 v1 rfl rfl)
    obtain ⟨fuel, hf⟩ := h1
    obtain ⟨l⟩ := cs
    obtain ⟨s, hs, hin⟩ := span_cells (hsz.trans hC2) hf
    exact ⟨s, by rw [show l = [.int .i64 s.f0, .int .i64 s.f1] from hs], hin⟩
  have e2 : ∃ A cap l, v2 = .slice A l.length cap ∧ l.length ≤ cap ∧ Go.Proofs.YtlkdehflipfpbaaW.PrintWords.Kd.C k48 W A l.length l ∧ ∀ s ∈ l, inS s := by
    obtain ⟨A, n, c, rfl⟩ := okWide_slice Try.underlying49 (hval 2 49 v2 rfl rfl)
    obtain ⟨fuel, hf⟩ := h2
    obtain ⟨A', cap, l, he, hr⟩ := spans_read hf
    simp [Value.cells] at he
    obtain ⟨rfl, rfl, rfl⟩ := he
    exact ⟨A, c, l, rfl, hr⟩
  obtain ⟨x, rfl, hx⟩ := e0
  obtain ⟨y, rfl, hy⟩ := e1
  obtain ⟨A, cp, l, rfl, hcp, hr, hin⟩ := e2
  obtain ⟨a3, rfl, rfl, rfl, w3⟩ := open_int Try.underlying3 (hval 3 3 v3 rfl rfl) h3
  obtain ⟨a4, rfl, rfl, rfl⟩ := open_bool Try.underlying4 (hval 4 4 v4 rfl rfl) h4
  clear hA0 hval0 hsz0
  refine (reckons_walk x y A cp l a3 a4 W hr hcp hin hx hy (wf_i64 w3)).mono fun e W' ⟨he, bel⟩ => ?_
  subst he
  exact ⟨_, rfl, _, _, _, [], _, [], hW', trodAll_mk1 (shut_bool Try.underlying4 _), (trodAll_cons_mk (Below.trod laidOut (by kernel_rfl) (of_decide_eq_true (by kernel_rfl)) k0 bel lt0) (trodAll_cons_mk (Below.trod laidOut (by kernel_rfl) (of_decide_eq_true (by kernel_rfl)) k1 bel lt1) (trodAll_cons_mk (Below.trod laidOut (by kernel_rfl) (of_decide_eq_true (by kernel_rfl)) k2 bel lt2) (trodAll_cons_mk (shut_int Try.underlying3 w3) (trodAll_cons_mk (shut_bool Try.underlying4 _) trodAll_mk0))))), rfl, bel.frame _, fun h => by cases h⟩
theorem over : Rows.spanReckonsRow.holds Try.pinned (OpenSpec.ofChange Rows.spanReckonsSpec) :=
  OpenClaim.holds_of_wide 6 Try.f6 rfl rfl rfl rfl rfl rfl rfl ⟨rfl, rfl, rfl, rfl, rfl⟩ rfl rfl rfl rfl rfl (by kernel_rfl) Try.func6 (by kernel_rfl)
    (of_decide_eq_true (by kernel_rfl)) (by unfold Func.isWrapper; first | (rw [if_pos (by decide +kernel)]; kernel_rfl) | (rw [if_neg (by decide +kernel)]; exact ⟨rfl, rfl⟩))
    (fun os started H enc _ => lifted os started H enc)
theorem proved : Rows.SpanReckonsSaid := over
end Go.Proofs.Ytlkdehflipfpbaa.spanReckons
namespace Go.Proofs.Ytlkdehflipfpbaa
/-- The row, under a short name, for the claim. -/
theorem spanReckons_holds : Rows.SpanReckonsSaid := spanReckons.proved
#print axioms spanReckons_holds
end Go.Proofs.Ytlkdehflipfpbaa
