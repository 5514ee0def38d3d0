/- For every list of frames, every string of noise and every list of cuts: the law picketlaw4.WirePieces returns true: however the bytes are cut into pieces the same frames come, and the noise between them is lost. Conditions: none beyond the row's own. -/
import Derived.Test.YtlkdehflipfpbaaRows
import Derived.Test.YtlkdehflipfpbaaE5
import Derived.Test.YtlkdehflipfpbaaOpen
namespace Go.Proofs.Ytlkdehflipfpbaa.wirePieces
open Go.ChangeShapes Go.WideShapes Go.ChangeAt Go.RowKit Go.Deep Go.Proofs.Ytlkdehflipfpbaa.Open
open Go.ChangeMaps (open_string shut_string)
theorem own : ownKnob Try.prog.godebug = none := by kernel_rfl
theorem laidOut : laidOutB Try.prog = true := by kernel_rfl
theorem frame_list {H : Type} {enc : TypeId × Value → H} {W : World} {base fuel : Nat} {spare : Nat → Bool} {held : Bool} {cs : List Value} {x : DataW H × List MemPlace} (hsz : cs.length = 5)
    (hf : DataW.trod enc Try.prog W base spare held fuel 26 cs = some x) :
    ∃ (f : Fr) (B : Option Addr) (m c : Nat), cs = [.int .i64 f.kind, .int .i64 f.src, .int .i64 f.tick, .slice B m c, .string f.data] ∧ Go.Proofs.YtlkdehflipfpbaaW.PrintWords.ReadsInt W .i64 B m f.nums ∧ inI64 f.nums := by
  have hC3 : Try.prog.cellsOf 23 = 3 := by kernel_rfl
  have hCi : Try.prog.cellsOf 3 = 1 := by kernel_rfl
  have hCs : Try.prog.cellsOf 24 = 1 := by kernel_rfl
  have hCt : Try.prog.cellsOf 9 = 1 := by kernel_rfl
  obtain ⟨a, b, c, d, e, rfl⟩ := len5 hsz
  obtain ⟨_, _, g0⟩ := op_part Try.underlying26 hf 0 rfl rfl hC3 (l := [a, b, c]) rfl
  obtain ⟨_, _, g1⟩ := op_part Try.underlying26 hf 1 rfl rfl hCs (l := [d]) rfl
  obtain ⟨_, _, g2⟩ := op_part Try.underlying26 hf 2 rfl rfl hCt (l := [e]) rfl
  obtain ⟨_, _, q0⟩ := op_part Try.underlying23 g0 0 rfl rfl hCi (l := [a]) rfl
  obtain ⟨_, _, q1⟩ := op_part Try.underlying23 g0 1 rfl rfl hCi (l := [b]) rfl
  obtain ⟨_, _, q2⟩ := op_part Try.underlying23 g0 2 rfl rfl hCi (l := [c]) rfl
  obtain ⟨kd, h0, _⟩ := op_int Try.underlying3 q0
  obtain ⟨sr, h1, _⟩ := op_int Try.underlying3 q1
  obtain ⟨tk, h2, _⟩ := op_int Try.underlying3 q2
  obtain ⟨A, n, cap, xs, h3, _, _, hr, hw⟩ := op_ints Try.underlying24 Try.underlying3 hCi g1
  obtain ⟨dt, h4, _⟩ := op_string Try.underlying9 g2
  simp only [List.cons.injEq, and_true] at h0 h1 h2 h3 h4
  subst h0 h1 h2 h3 h4
  exact ⟨⟨kd, sr, tk, xs, dt⟩, A, n, cap, rfl, hr, fun z hz => wf_i64 (hw z hz)⟩
theorem frames_read {H : Type} {enc : TypeId × Value → H} {W : World} {base fuel : Nat} {spare : Nat → Bool} {held : Bool} {cs : List Value} {x : DataW H × List MemPlace}
    (h : DataW.trod enc Try.prog W base spare held fuel 63 cs = some x) : ∃ A n c fs, cs = [.slice A n c] ∧ FrsAt W A n fs := by
  have hC : Try.prog.cellsOf 26 = 5 := by kernel_rfl
  obtain ⟨A, len, cap, rfl, hl, hm, hel⟩ := op_slice Try.underlying63 h
  have hm9 : len ≤ 9223372036854775807 := by unfold maxLen at hm; omega
  rcases Nat.eq_zero_or_pos len with h0 | h0
  · exact ⟨A, len, cap, [], rfl, by simp [h0], hm9, fun hp => absurd hp (by omega)⟩
  · obtain ⟨ad, hA, hi⟩ := hel h0
    have hi' : ∀ i, ∃ f : Fr, i < len → ∃ B m c, FrAt W (ad.add (i * 5)) f B m c := by
      intro i
      by_cases hlt : i < len
      · obtain ⟨cs', n, y, hcell, hlen, htr⟩ := hi i hlt
        rw [hC] at hlen hcell
        obtain ⟨f, B, m, c, rfl, hr, hx⟩ := frame_list hlen htr
        have e0 : (ad.add (i * 5)).add 0 = ad.add (i * 5) := by simp [Addr.add]
        have k0 := hcell 0 (by omega)
        rw [e0] at k0
        exact ⟨f, fun _ => ⟨B, m, c, k0, hcell 1 (by omega), hcell 2 (by omega), hcell 3 (by omega), hcell 4 (by omega), hr, hx⟩⟩
      · exact ⟨⟨0, 0, 0, [], ⟨#[]⟩⟩, fun hh => absurd hh hlt⟩
    obtain ⟨f, hf⟩ : ∃ f : Nat → Fr, ∀ i, i < len → ∃ B m c, FrAt W (ad.add (i * 5)) (f i) B m c := ⟨fun i => Classical.choose (hi' i), fun i => Classical.choose_spec (hi' i)⟩
    refine ⟨A, len, cap, (List.range len).map f, rfl, by simp, hm9, fun _ => ⟨ad, hA, fun k g hk => ?_⟩⟩
    obtain ⟨hk1, hk2⟩ := List.getElem?_eq_some_iff.1 hk
    simp only [List.getElem_map, List.getElem_range] at hk2
    subst hk2
    exact hf k (by simpa using hk1)
set_option maxRecDepth 100000 in
theorem lifted (os : Os) (started : os.Started) (H : Type) (enc : TypeId × Value → H) :
    ReturnsInHanded {} Try.checked os 7 .any (Rows.wirePiecesSpec.pre6 enc Try.prog Try.f7 Rows.wirePiecesRow.domain false) (Rows.wirePiecesSpec.post enc Try.prog Try.f7 false true false false) := by
  refine returnsInHanded_of_change_sized (C := Try.checked) own started (by kernel_rfl) Try.func7
    (ChangeSpec.witness6 (enc := enc) (C := Try.checked) false ⟨#[], #[.slice none 0 0, .string ByteArray.empty, .slice none 0 0], []⟩ 8 (by kernel_rfl) (by kernel_rfl) (by kernel_rfl) (by kernel_rfl)) ?_
  intro W base args ds gs before hval0 hW hcnd hsz0 _
  have hval : ∀ (j : Nat) t v, Try.f7.params[j]? = some t → args[j]? = some v → Value.okWide Try.prog W .any base t v := hval0
  have hW' := hW
  obtain ⟨p, q, hA0, hV, rfl, hfz, hnd⟩ := hW
  have hA : DataW.TrodAll enc Try.prog W 0 (fun _ => true) true Try.f7.params.toList args.toList ds p := hA0
  rw [Try.params7] at hA hval
  obtain ⟨v0, vs0, d0, ds0, p0, q0, hargs, rfl, rfl, h0, r0⟩ := trodAll_cons hA
  obtain ⟨v1, vs1, d1, ds1, p1, q1, rfl, rfl, rfl, h1, r1⟩ := trodAll_cons r0
  obtain ⟨v2, vs2, d2, ds2, p2, q2, rfl, rfl, rfl, h2, r2⟩ := trodAll_cons r1
  obtain ⟨rfl, rfl, rfl⟩ := trodAll_nil r2
  obtain rfl : args = #[v0, v1, v2] := by cases args; simp_all
  obtain ⟨rfl, rfl⟩ := trodVars_none hV
  have k0 := h0
  have k1 := h1
  have k2 := h2
  have lt0 : ∀ x ∈ p0, x.block < W.heap.size := by obtain ⟨m, hm⟩ := k0; exact DataW.trod_lt m _ _ _ hm
  have lt1 : ∀ x ∈ p1, x.block < W.heap.size := by obtain ⟨m, hm⟩ := k1; exact DataW.trod_lt m _ _ _ hm
  have lt2 : ∀ x ∈ p2, x.block < W.heap.size := by obtain ⟨m, hm⟩ := k2; exact DataW.trod_lt m _ _ _ hm
  have e0 : ∃ A n c fs, v0 = .slice A n c ∧ FrsAt W A n fs := by
    obtain ⟨A, n, c, rfl⟩ := okWide_slice Try.underlying63 (hval 0 63 v0 rfl rfl)
    obtain ⟨fuel, hf⟩ := h0
    obtain ⟨A', n', c', fs, he, hr⟩ := frames_read hf
    simp [Value.cells] at he
    obtain ⟨rfl, rfl, rfl⟩ := he
    exact ⟨A, n, c, fs, rfl, hr⟩
  have e2 : ∃ B m d zs, v2 = .slice B m d ∧ Go.Proofs.YtlkdehflipfpbaaW.PrintWords.ReadsInt W .i64 B m zs := by
    obtain ⟨A, n, c, rfl⟩ := okWide_slice Try.underlying24 (hval 2 24 v2 rfl rfl)
    obtain ⟨fuel, hf⟩ := h2
    obtain ⟨A', n', c', zs, he, _, _, hr, _⟩ := op_ints Try.underlying24 Try.underlying3 (by kernel_rfl) hf
    simp [Value.cells] at he
    obtain ⟨rfl, rfl, rfl⟩ := he
    exact ⟨A, n, c, zs, rfl, hr⟩
  obtain ⟨A, n, c, fs, rfl, hF⟩ := e0
  obtain ⟨a1, rfl, rfl, rfl, y1⟩ := open_string Try.underlying9 (hval 1 9 v1 rfl rfl) h1
  obtain ⟨B, m, d, zs, rfl, hZ⟩ := e2
  clear hA0 hval0 hsz0
  refine (pieces_all A n c fs a1 B m d zs W hF hZ).mono fun e W' ⟨he, bel⟩ => ?_
  subst he
  exact ⟨_, rfl, _, _, _, [], _, [], hW', trodAll_mk1 (shut_bool Try.underlying4 _), (trodAll_cons_mk (Below.trod laidOut (by kernel_rfl) (of_decide_eq_true (by kernel_rfl)) k0 bel lt0) (trodAll_cons_mk (shut_string Try.underlying9 y1) (trodAll_cons_mk (Below.trod laidOut (by kernel_rfl) (of_decide_eq_true (by kernel_rfl)) k2 bel lt2) trodAll_mk0))), rfl, bel.frame _, fun h => by cases h⟩
theorem over : Rows.wirePiecesRow.holds Try.pinned (OpenSpec.ofChange Rows.wirePiecesSpec) :=
  OpenClaim.holds_of_wide 7 Try.f7 rfl rfl rfl rfl rfl rfl rfl ⟨rfl, rfl, rfl, rfl, rfl⟩ rfl rfl rfl rfl rfl (by kernel_rfl) Try.func7 (by kernel_rfl)
    (of_decide_eq_true (by kernel_rfl)) (by unfold Func.isWrapper; first | (rw [if_pos (by decide +kernel)]; kernel_rfl) | (rw [if_neg (by decide +kernel)]; exact ⟨rfl, rfl⟩))
    (fun os started H enc _ => lifted os started H enc)
theorem proved : Rows.WirePiecesSaid := over
end Go.Proofs.Ytlkdehflipfpbaa.wirePieces
namespace Go.Proofs.Ytlkdehflipfpbaa
/-- The row, under a short name, for the claim. -/
theorem wirePieces_holds : Rows.WirePiecesSaid := wirePieces.proved
end Go.Proofs.Ytlkdehflipfpbaa
