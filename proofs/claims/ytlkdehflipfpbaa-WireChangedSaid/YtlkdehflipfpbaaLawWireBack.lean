/- For every frame, every string behind it and every number: the law picketlaw4.WireBack returns true: a frame that was put is got as it was, with whatever behind it, and no beginning of it is got. Conditions: none beyond the row's own. -/
import Derived.Test.YtlkdehflipfpbaaRows
import Derived.Test.YtlkdehflipfpbaaB4
import Derived.Test.YtlkdehflipfpbaaOpen
namespace Go.Proofs.Ytlkdehflipfpbaa.wireBack
open Go.ChangeShapes Go.WideShapes Go.ChangeAt Go.RowKit Go.Deep Go.Proofs.Ytlkdehflipfpbaa.Open
open Go.ChangeMaps (open_string shut_string)
theorem own : ownKnob Try.prog.godebug = none := by kernel_rfl
theorem laidOut : laidOutB Try.prog = true := by kernel_rfl
theorem frame_reads {H : Type} {enc : TypeId × Value → H} {W : World} {base fuel : Nat} {spare : Nat → Bool} {held : Bool} {cs : Array Value} {x : DataW H × List MemPlace} (hsz : cs.size = Try.prog.cellsOf 26)
    (hf : DataW.trod enc Try.prog W base spare held fuel 26 (Value.agg cs).cells.toList = some x) :
    ∃ kd sr tk A n c xs dt, Value.agg cs = .agg #[.int .i64 kd, .int .i64 sr, .int .i64 tk, .slice A n c, .string dt] ∧ Go.Proofs.YtlkdehflipfpbaaW.PrintWords.ReadsInt W .i64 A n xs ∧ inI64 xs := by
  have hC : Try.prog.cellsOf 26 = 5 := by kernel_rfl
  have hC3 : Try.prog.cellsOf 23 = 3 := by kernel_rfl
  have hCi : Try.prog.cellsOf 3 = 1 := by kernel_rfl
  have hCs : Try.prog.cellsOf 24 = 1 := by kernel_rfl
  have hCt : Try.prog.cellsOf 9 = 1 := by kernel_rfl
  obtain ⟨l⟩ := cs
  obtain ⟨a, b, c, d, e, rfl⟩ := len5 (hsz.trans hC)
  obtain ⟨_, _, g0⟩ := op_part Try.underlying26 hf 0 rfl rfl hC3 (l := [a, b, c]) rfl
  obtain ⟨_, _, g1⟩ := op_part Try.underlying26 hf 1 rfl rfl hCs (l := [d]) rfl
  obtain ⟨_, _, g2⟩ := op_part Try.underlying26 hf 2 rfl rfl hCt (l := [e]) rfl
  obtain ⟨_, _, q0⟩ := op_part Try.underlying23 g0 0 rfl rfl hCi (l := [a]) rfl
  obtain ⟨_, _, q1⟩ := op_part Try.underlying23 g0 1 rfl rfl hCi (l := [b]) rfl
  obtain ⟨_, _, q2⟩ := op_part Try.underlying23 g0 2 rfl rfl hCi (l := [c]) rfl
  obtain ⟨kd, h0, _⟩ := op_int Try.underlying3 q0
  obtain ⟨sr, h1, _⟩ := op_int Try.underlying3 q1
  obtain ⟨tk, h2, _⟩ := op_int Try.underlying3 q2
  obtain ⟨A, n, cap, xs, h3, _, _, hr, hw⟩ := op_ints Try.underlying24 Try.underlying3 hCi g1
  obtain ⟨dt, h4, _⟩ := op_string Try.underlying9 g2
  simp only [List.cons.injEq, and_true] at h0 h1 h2 h3 h4
  subst h0 h1 h2 h3 h4
  exact ⟨kd, sr, tk, A, n, cap, xs, dt, rfl, hr, fun z hz => wf_i64 (hw z hz)⟩
set_option maxRecDepth 100000 in
theorem lifted (os : Os) (started : os.Started) (H : Type) (enc : TypeId × Value → H) :
    ReturnsInHanded {} Try.checked os 3 .any (Rows.wireBackSpec.pre6 enc Try.prog Try.f3 Rows.wireBackRow.domain false) (Rows.wireBackSpec.post enc Try.prog Try.f3 false true false false) := by
  refine returnsInHanded_of_change_sized (C := Try.checked) own started (by kernel_rfl) Try.func3
    (ChangeSpec.witness6 (enc := enc) (C := Try.checked) false ⟨#[], #[.agg #[.int .i64 0, .int .i64 0, .int .i64 0, .slice none 0 0, .string ByteArray.empty], .string ByteArray.empty, .int .i64 0], []⟩ 8 (by kernel_rfl) (by kernel_rfl) (by kernel_rfl) (by kernel_rfl)) ?_
  intro W base args ds gs before hval0 hW hcnd hsz0 _
  have hval : ∀ (j : Nat) t v, Try.f3.params[j]? = some t → args[j]? = some v → Value.okWide Try.prog W .any base t v := hval0
  have hW' := hW
  obtain ⟨p, q, hA0, hV, rfl, hfz, hnd⟩ := hW
  have hA : DataW.TrodAll enc Try.prog W 0 (fun _ => true) true Try.f3.params.toList args.toList ds p := hA0
  rw [Try.params3] at hA hval
  obtain ⟨v0, vs0, d0, ds0, p0, q0, hargs, rfl, rfl, h0, r0⟩ := trodAll_cons hA
  obtain ⟨v1, vs1, d1, ds1, p1, q1, rfl, rfl, rfl, h1, r1⟩ := trodAll_cons r0
  obtain ⟨v2, vs2, d2, ds2, p2, q2, rfl, rfl, rfl, h2, r2⟩ := trodAll_cons r1
  obtain ⟨rfl, rfl, rfl⟩ := trodAll_nil r2
  obtain rfl : args = #[v0, v1, v2] := by cases args; simp_all
  obtain ⟨rfl, rfl⟩ := trodVars_none hV
  have k0 := h0
  have k1 := h1
  have lt0 : ∀ x ∈ p0, x.block < W.heap.size := by obtain ⟨m, hm⟩ := k0; exact DataW.trod_lt m _ _ _ hm
  have lt1 : ∀ x ∈ p1, x.block < W.heap.size := by obtain ⟨m, hm⟩ := k1; exact DataW.trod_lt m _ _ _ hm
  have e0 : ∃ kd sr tk A n c xs dt, v0 = .agg #[.int .i64 kd, .int .i64 sr, .int .i64 tk, .slice A n c, .string dt] ∧ Go.Proofs.YtlkdehflipfpbaaW.PrintWords.ReadsInt W .i64 A n xs ∧ inI64 xs := by
    obtain ⟨cs, rfl, hsz⟩ := okWide_struct Try.underlying26 (hval 0 26 v0 rfl rfl)
    obtain ⟨fuel, hf⟩ := h0
    exact frame_reads hsz hf
  obtain ⟨kd, sr, tk, A, n, c, xs, dt, rfl, hr, hx⟩ := e0
  obtain ⟨a1, rfl, rfl, rfl, y1⟩ := open_string Try.underlying9 (hval 1 9 v1 rfl rfl) h1
  obtain ⟨a2, rfl, rfl, rfl, w2⟩ := open_int Try.underlying3 (hval 2 3 v2 rfl rfl) h2
  clear hA0 hval0 hsz0
  refine (back_walk kd sr tk a2 A n c xs dt a1 W hr hx).mono fun e W' ⟨he, bel⟩ => ?_
  subst he
  exact ⟨_, rfl, _, _, _, [], _, [], hW', trodAll_mk1 (shut_bool Try.underlying4 _), (trodAll_cons_mk (Below.trod laidOut (by kernel_rfl) (of_decide_eq_true (by kernel_rfl)) k0 bel lt0) (trodAll_cons_mk (shut_string Try.underlying9 y1) (trodAll_cons_mk (shut_int Try.underlying3 w2) trodAll_mk0))), rfl, bel.frame _, fun h => by cases h⟩
theorem over : Rows.wireBackRow.holds Try.pinned (OpenSpec.ofChange Rows.wireBackSpec) :=
  OpenClaim.holds_of_wide 3 Try.f3 rfl rfl rfl rfl rfl rfl rfl ⟨rfl, rfl, rfl, rfl, rfl⟩ rfl rfl rfl rfl rfl (by kernel_rfl) Try.func3 (by kernel_rfl)
    (of_decide_eq_true (by kernel_rfl)) (by unfold Func.isWrapper; first | (rw [if_pos (by decide +kernel)]; kernel_rfl) | (rw [if_neg (by decide +kernel)]; exact ⟨rfl, rfl⟩))
    (fun os started H enc _ => lifted os started H enc)
theorem proved : Rows.WireBackSaid := over
end Go.Proofs.Ytlkdehflipfpbaa.wireBack
namespace Go.Proofs.Ytlkdehflipfpbaa
/-- The row, under a short name, for the claim. -/
theorem wireBack_holds : Rows.WireBackSaid := wireBack.proved
end Go.Proofs.Ytlkdehflipfpbaa
