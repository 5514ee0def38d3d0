import Derived.Test.YtlkdehflipfpbaaQSpanReckonsx
import Derived.Laws.DeepStrings4
namespace Go.Proofs.Ytlkdehflipfpbaa.QSpanReckons
open Go.RowKit Go.Proofs.YtlkdehflipfpbaaW.PrintWords Go.Proofs.YtlkdehflipfpbaaW.PrintLast Go.Proofs.YtlkdehflipfpbaaW.PrintMore
theorem spanK_M {w0 w : World} {base : Nat} {ok : Nat → Prop} (x : S48) (cs : List Value) (h : k48.K w0 x cs) : k48.M w base ok x cs := by
  rw [k48_open h]
  exact k48_mkM _ _ _ x
set_option maxRecDepth 100000 in
set_option maxHeartbeats 1000000 in
theorem lentSpans_calls (A : Option Addr) (c : Nat) (l : List S48) (w : World) (hr : Kd.C k48 w A l.length l) (hl : l.length ≤ 1000000) :
    Calls Try.prog 24 #[.slice A l.length c] w fun e w' => ∃ g cap, e = .returned (.slice (some ⟨g, 0, none⟩) l.length cap) ∧ l.length + 1 ≤ cap ∧ Kd.R k48 48 w' w.heap.size (fun _ => True) (.slice (some ⟨g, 0, none⟩) (l.length + 1) cap) (l ++ [⟨-77, 0⟩]) ∧ Below w.heap.size w w' := by
  have HR := Aside0.mk hr
  have HL := Aside0.mk hl
  clear hr
  go_enter Try.func24, Try.ntmps24
  go_wp2_with (first | (at_builtin; refine Kd.R_append_rows (Rr := k48.K w) k48 w.heap.size rfl (.const (.slice none 0 0)) (.tmp 3) 49 48 (.agg #[(.int .i64 0), (.int .i64 0)]) 16 rfl Try.underlying49 info48 rfl (by decide) (by omega) (.slice none 0 0) [] l A l.length c (fun _ => True) (fun _ => False) rfl rfl ?aO ?aR ?aK (fun _ h => h.elim) (fun _ _ => trivial) (Below.refl _ _) (Nat.le_refl _) ?aL ?_; (case aO => exact Kd.R_nil _ _ _ _ _); (case aR => exact HR.out); (case aK => exact spanK_M); (case aL => have := HL.out; simp; omega); intro v1 w1 ho1 hb1 hg1 hat1; rw [List.nil_append] at ho1; obtain ⟨A1, c1, e1⟩ := Kd.R_slice ho1; subst e1; have HO1 := Aside0.mk ho1; have HB1 := Aside0.mk hb1; clear ho1 hb1 hg1 hat1) | (at_builtin; refine Kd.R_append k48 w.heap.size rfl (.tmp 4) (.tmp 6) 49 48 (.agg #[(.int .i64 0), (.int .i64 0)]) 16 rfl Try.underlying49 info48 rfl (by decide) (by omega) (.slice A1 l.length c1) l ⟨-77, 0⟩ [.int .i64 (-77), .int .i64 0] (fun _ => True) (fun _ => False) rfl rfl (k48_mkM _ _ _ ⟨-77, 0⟩) (fun _ h => h.elim) (fun _ _ => trivial) HO1.out HB1.out HB1.out.size ?bL ?_; (case bL => have := HL.out; omega); intro v2 w2 ho2 hb2 hg2 hat2; obtain ⟨g2, c2, e2, hge2, hlt2, hcs2⟩ := Kd.R_form ho2 (by simp); subst e2; rw [show (l ++ [(⟨-77, 0⟩ : S48)]).length = l.length + 1 by simp] at ho2 ⊢; have hcap := (Kd.R_reads' ho2).2.1; have HO2 := Aside0.mk ho2; have HB2 := Aside0.mk hb2; clear ho2 hb2 hg2 hat2 hcs2))
  go_ret
  exact ⟨g2, c2, rfl, hcap, HO2.out, HB2.out⟩
set_option maxRecDepth 100000 in
set_option maxHeartbeats 1000000 in
/-- A list that was lent, and is as it was. -/
theorem staysSpans_calls (g cap : Nat) (A : Option Addr) (c : Nat) (l : List S48) (base : Nat) (w : World) (k : Nat) (hr : Kd.C k48 w A l.length l) (hc : l.length ≤ c) (hm : Kd.R k48 48 w base (fun _ => True) (.slice (some ⟨g, 0, none⟩) (l.length + 1) cap) (l ++ [⟨-77, 0⟩])) (hl : l.length ≤ 1000000) (hs : picketbook_SameSpans.f k l l = some true) :
    Calls Try.prog 33 #[.slice (some ⟨g, 0, none⟩) l.length cap, .slice A l.length c] w fun e w' => e = .returned (.bool true) ∧ Below w.heap.size w w' := by
  have hcm := (Kd.R_reads' hm).2
  have hcap := hcm.1
  have hC : Kd.C k48 w (some ⟨g, 0, none⟩) l.length l := by
    have h := Kd.R_take (m := l.length) hm (by simp)
    rw [List.take_append_of_le_length (Nat.le_refl _), List.take_length] at h
    exact (Kd.R_reads' h).2.2
  obtain ⟨ad, e, hx0, hx1⟩ := at_T48 hcm.2 (l.length : Int) (by omega) (by simp; omega)
  injection e with e
  subst e
  have hx : w.cell? ⟨g, l.length * 2, none⟩ = some (.int .i64 (-77)) := by
    rw [add_plain] at hx0
    rw [show rd_T48 (l ++ [(⟨-77, 0⟩ : S48)]) (l.length : Int) = ⟨-77, 0⟩ by simp [rd_T48]] at hx0
    exact hx0
  have HC := Aside0.mk hC
  have HR := Aside0.mk hr
  have HX := Aside0.mk hx
  clear hC hr hx0 hx1 hcm hm
  go_enter Try.func33, Try.ntmps33
  go_wp2_with (first | (go_at_call 77; refine (picketbook_SameSpans.calls k (some ⟨g, 0, none⟩) cap l A c l true _ HC.out (by omega) HR.out hc hs).mono ?_; rintro e w1 ⟨rfl, hd⟩; obtain ⟨nd, rfl⟩ := hd.out; have hx := HX.out))
  go_ret
  exact ⟨rfl, pw_below_drewN (Below.refl _ _) _⟩
end Go.Proofs.Ytlkdehflipfpbaa.QSpanReckons
