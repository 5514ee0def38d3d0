import Derived.Test.YtlkdehflipfpbaaA6
import Derived.Defers
import Derived.Recover
import Derived.Laws.Pointers
namespace Go.Proofs.Ytlkdehflipfpbaa
open Go.RowKit Go.Proofs.YtlkdehflipfpbaaW.PrintWords

set_option maxRecDepth 100000 in
theorem catch_idle (p q r : Addr) (w : World) :
    CallsD Try.prog 40 #[.pointer (some p), .pointer (some q), .pointer (some r)] .returning w fun e u' w' => e = .returned (.tuple #[]) ∧ u' = .returning ∧ w = w' := by
  refine callsD_of_wpS Try.func40 rfl fun c₀ cs hu => ?_
  apply wpS_seq
  apply wpS_region
  simp [wpOpsS, go_sem, recoverD, hu, Try.ntmps40, Exit.thenS]
  apply wpS_seq
  apply wpS_region
  simp [wpOpsS, go_sem, Exit.thenS]
  refine wpS_cond (t := false) (by simp [Act.eval, Array.replicate]) ?_
  simp only [Bool.false_eq_true, if_false]
  refine wpS_of_wp (wp_skip ?_)
  cases c₀
  simp_all [bodyPostS, results, Try.results40]

theorem assert_fault (v : Value) (W : World) : (Instr.typeAssert (.iface 76 v) 20 76 true).run Try.prog W = .ok (.tuple #[v, .bool true]) W := by kernel_rfl
set_option maxRecDepth 100000 in
set_option maxHeartbeats 1000000 in
theorem catch_panicking (N : Nat) (c : Int) (w : World) (k0 : w.heap[N]? = some (.cells #[.int .i64 0, .int .i64 0, .int .i64 0, .slice none 0 0, .string ⟨#[]⟩] 26 (0, 0)))
    (k1 : w.heap[N + 1]? = some (.cells #[.int .i64 0] 3 (0, 0))) (k2 : w.heap[N + 1 + 1]? = some (.cells #[.int .i64 0] 28 (0, 0))) :
    CallsD Try.prog 40 #[.pointer (some ⟨N, 0, none⟩), .pointer (some ⟨N + 1, 0, none⟩), .pointer (some ⟨N + 1 + 1, 0, none⟩)] (.panicking [{ v := .iface 76 (.int .i64 c), recovered := false }]) w fun e u' w' =>
      e = .returned (.tuple #[]) ∧ u' = .panicking [{ v := .iface 76 (.int .i64 c), recovered := true }] ∧
        (w'.heap[N]? = some (.cells #[.int .i64 0, .int .i64 0, .int .i64 0, .slice none 0 0, .string ⟨#[]⟩] 26 (0, 0)) ∧ w'.heap[N + 1]? = some (.cells #[.int .i64 0] 3 (0, 0)) ∧ w'.heap[N + 1 + 1]? = some (.cells #[.int .i64 c] 28 (0, 0)) ∧ Below N w w') := by
  have cz0 : w.cell? ⟨N, 0, none⟩ = some (.int .i64 0) := blk_cell k0 0
  have cz1 : w.cell? ⟨N, 1, none⟩ = some (.int .i64 0) := blk_cell k0 1
  have cz2 : w.cell? ⟨N, 2, none⟩ = some (.int .i64 0) := blk_cell k0 2
  have cz3 : w.cell? ⟨N, 3, none⟩ = some (.slice none 0 0) := blk_cell k0 3
  have cz4 : w.cell? ⟨N, 4, none⟩ = some (.string ⟨#[]⟩) := blk_cell k0 4
  have cf0 : w.frozen? ⟨N, 0, none⟩ = false := blk_frozen k0 0
  have cf1 : w.frozen? ⟨N, 1, none⟩ = false := blk_frozen k0 1
  have cf2 : w.frozen? ⟨N, 2, none⟩ = false := blk_frozen k0 2
  have cf3 : w.frozen? ⟨N, 3, none⟩ = false := blk_frozen k0 3
  have cf4 : w.frozen? ⟨N, 4, none⟩ = false := blk_frozen k0 4
  have cn : w.cell? ⟨N + 1, 0, none⟩ = some (.int .i64 0) := blk_cell k1 0
  have zn : w.frozen? ⟨N + 1, 0, none⟩ = false := blk_frozen k1 0
  have ce : w.cell? ⟨N + 1 + 1, 0, none⟩ = some (.int .i64 0) := blk_cell k2 0
  have ze : w.frozen? ⟨N + 1 + 1, 0, none⟩ = false := blk_frozen k2 0
  refine callsD_of_wpS Try.func40 rfl fun c₀ cs hu => ?_
  apply wpS_seq
  apply wpS_region
  simp [wpOpsS, go_sem, recoverD, hu, Try.ntmps40, Exit.thenS]
  apply wpS_seq
  apply wpS_region
  simp [wpOpsS, go_sem, Exit.thenS]
  refine wpS_cond (t := true) (by simp [Act.eval, Array.replicate]) ?_
  simp only [if_true]
  refine wpS_of_wp ?_
  have ht : (#[Value.pointer (some { block := N, off := 0 }), Value.pointer (some { block := N + 1, off := 0 }), Value.pointer (some { block := N + 1 + 1, off := 0 })] ++
          ((((Array.replicate 16 undef).setIfInBounds 3 (Value.iface 76 (Value.int IntKind.i64 c))).setIfInBounds 0 (Value.iface 76 (Value.int IntKind.i64 c))).setIfInBounds 4 (Value.iface 76 (Value.int IntKind.i64 c))).setIfInBounds 5 (Value.bool true)) =
      #[Value.pointer (some { block := N, off := 0 }), Value.pointer (some { block := N + 1, off := 0 }), Value.pointer (some { block := N + 1 + 1, off := 0 }), Value.iface 76 (Value.int IntKind.i64 c), undef, undef, Value.iface 76 (Value.int IntKind.i64 c), Value.iface 76 (Value.int IntKind.i64 c), Value.bool true, undef, undef, undef, undef, undef, undef, undef, undef, undef, undef] := by
    simp [Array.replicate]
  rw [ht]
  clear ht
  have ha := assert_fault (.int .i64 c) w
  obtain ⟨Q, hQ⟩ : ∃ Q, Q = (fun (e : Exit) (a' : Act) (w' : World) => bodyPostS Try.prog Try.f40 c₀ cs (fun e u' w' =>
      e = .returned (.tuple #[]) ∧ u' = .panicking [{ v := .iface 76 (.int .i64 c), recovered := true }] ∧
        (w'.heap[N]? = some (.cells #[.int .i64 0, .int .i64 0, .int .i64 0, .slice none 0 0, .string ⟨#[]⟩] 26 (0, 0)) ∧ w'.heap[N + 1]? = some (.cells #[.int .i64 0] 3 (0, 0)) ∧ w'.heap[N + 1 + 1]? = some (.cells #[.int .i64 c] 28 (0, 0)) ∧ Below N w w')) e a' ({ fn := c₀.fn, tmps := c₀.tmps, todo := c₀.todo, defers := c₀.defers, mode := FrameMode.panicking [{ v := Value.iface 76 (Value.int IntKind.i64 c), recovered := true }], kind := c₀.kind, roundOf := c₀.roundOf } :: cs) w') := ⟨_, rfl⟩
  rw [← hQ]
  clear hu
  have HQ := Lib.hid hQ
  clear hQ
  go_wp2_with fail
  rw [HQ.out]
  refine ⟨rfl, _, rfl, .tuple #[], by simp [results, Try.results40], rfl, rfl, ?_, ?_, ?_, ?_⟩
  · exact blk_far (blk_far (blk_put (cs := #[.int .i64 0, .int .i64 0, .int .i64 0, .slice none 0 0, .string ⟨#[]⟩]) (blk_put (cs := #[.int .i64 0, .int .i64 0, .int .i64 0, .slice none 0 0, .string ⟨#[]⟩]) (blk_put (cs := #[.int .i64 0, .int .i64 0, .int .i64 0, .slice none 0 0, .string ⟨#[]⟩]) (blk_put (cs := #[.int .i64 0, .int .i64 0, .int .i64 0, .slice none 0 0, .string ⟨#[]⟩]) (blk_put (cs := #[.int .i64 0, .int .i64 0, .int .i64 0, .slice none 0 0, .string ⟨#[]⟩]) k0 0 _ rfl) 1 _ rfl) 2 _ rfl) 3 _ rfl) 4 _ rfl) (by simp) _) (by simp; omega) _
  · exact blk_far (blk_put (cs := #[.int .i64 0]) (blk_far (blk_far (blk_far (blk_far (blk_far k1 (by simp) _) (by simp) _) (by simp) _) (by simp) _) (by simp) _) 0 _ rfl) (by simp) _
  · exact blk_put (cs := #[.int .i64 0]) (blk_far (blk_far (blk_far (blk_far (blk_far (blk_far k2 (by simp; omega) _) (by simp; omega) _) (by simp; omega) _) (by simp; omega) _) (by simp; omega) _) (by simp) _) 0 _ rfl
  · exact (((((((Below.refl N w).setCell (Nat.le_refl _) _).setCell (Nat.le_refl _) _).setCell (Nat.le_refl _) _).setCell (Nat.le_refl _) _).setCell (Nat.le_refl _) _).setCell (by simp) _).setCell (by simp; omega) _

/-- What Get answers: the frame's parts, how many bytes, the error. -/
def getB (b : ByteArray) : Fr × Int × Int := match readB b with
  | .error c => (⟨0, 0, 0, [], ⟨#[]⟩⟩, 0, c)
  | .ok (f, n) => (f, n, 0)
def GetPost (w : World) (r : Fr × Int × Int) (e : Ending) (w' : World) : Prop :=
  ∃ v, e = .returned (.tuple #[.agg #[.int .i64 r.1.kind, .int .i64 r.1.src, .int .i64 r.1.tick, v, .string r.1.data], .int .i64 r.2.1, .int .i64 r.2.2]) ∧
      w'.ownsRow w.heap.size 3 1 v r.1.nums.length (nums .i64 r.1.nums) ∧ Below w.heap.size w w'
set_option maxRecDepth 100000 in
set_option maxHeartbeats 1000000 in
theorem get_calls (b : ByteArray) (hb : b.size ≤ 140737488351232) (w : World) : Calls Try.prog 10 #[.string b] w (GetPost w (getB b)) := by
  have hmf : ∀ (fn : Fn) (first cap : Array Value) (w : World), (Instr.makeFunc fn first cap).run Try.prog w = .ok (.func fn first cap) w := fun _ _ _ _ => rfl
  have HB3 := Lib.hid (bw3 w)
  have HH3 := Lib.hid (heap3 w)
  rcases hr : readB b with c | ⟨f, n⟩
  · have hg : getB b = (⟨0, 0, 0, [], ⟨#[]⟩⟩, 0, c) := by unfold getB; rw [hr]
    rw [hg]
    clear hg
    have HR := Lib.hid (read_calls b hb _ hr)
    clear hr
    go_enter_defers Try.func10, Try.ntmps10
    go_wp2_with fail
    refine (HR.out _).mono ?_
    rintro e W ⟨he, hbl⟩
    unfold flt at he
    subst he
    go_wp2_with fail
    have k0 := (hbl.block _ (by simp; omega)).trans (HH3.out _ _ _ _ _ _).1
    have k1 := (hbl.block _ (by simp)).trans (HH3.out _ _ _ _ _ _).2.1
    have k2 := (hbl.block _ (by simp)).trans (HH3.out _ _ _ _ _ _).2.2
    have hbw : Below w.heap.size w W := below_then (HB3.out _ _ _ _ _ _) (HB3.out _ _ _ _ _ _).size hbl
    refine leaves_cons (f := 40) (args := #[.pointer (some ⟨w.heap.size, 0, none⟩), .pointer (some ⟨w.heap.size + 1, 0, none⟩), .pointer (some ⟨w.heap.size + 1 + 1, 0, none⟩)]) (by simp) (by simp [go_sem]) ?_
    refine (catch_panicking w.heap.size c W k0 k1 k2).mono ?_
    rintro e u' w'' ⟨rfl, rfl, h0, h1, h2, hb2⟩
    have c0 := blk_cell h0 0
    have c1 := blk_cell h0 1
    have c2 := blk_cell h0 2
    have c3 := blk_cell h0 3
    have c4 := blk_cell h0 4
    have cn := blk_cell h1 0
    have ce := blk_cell h2 0
    simp only [List.getElem?_toArray, List.getElem?_cons_zero, List.getElem?_cons_succ] at c0 c1 c2 c3 c4 cn ce
    refine ⟨.tuple #[.agg #[.int .i64 0, .int .i64 0, .int .i64 0, .slice none 0 0, .string ⟨#[]⟩], .int .i64 0, .int .i64 c], by simp [results, Try.results10, go_sem, *], .slice none 0 0, rfl, own_nil _ _ _ _, hbw.trans hb2⟩
  · have hg : getB b = (f, n, 0) := by unfold getB; rw [hr]
    rw [hg]
    clear hg
    have HR := Lib.hid (read_calls b hb _ hr)
    clear hr
    go_enter_defers Try.func10, Try.ntmps10
    go_wp2_with fail
    refine (HR.out _).mono ?_
    rintro e W ⟨v, rfl, ho, hbl⟩
    obtain ⟨Av, cv, hv⟩ := own_slice ho
    subst hv
    obtain ⟨kd, sr, tk, xs, dt⟩ := f
    dsimp only at ho ⊢
    have k0 := (hbl.block _ (by simp; omega)).trans (HH3.out _ _ _ _ _ _).1
    have k1 := (hbl.block _ (by simp)).trans (HH3.out _ _ _ _ _ _).2.1
    have k2 := (hbl.block _ (by simp)).trans (HH3.out _ _ _ _ _ _).2.2
    have hbw : Below w.heap.size w W := below_then (HB3.out _ _ _ _ _ _) (HB3.out _ _ _ _ _ _).size hbl
    have hnb : some (w.heap.size + 1) ≠ (Value.slice Av xs.length cv).ownBlock := fun e => by have := own_base ho _ e.symm; simp at this; omega
    have ho' := own_weaken ho (base' := w.heap.size) (by simp; omega)
    have c0 : W.cell? ⟨w.heap.size, 0, none⟩ = some (.int .i64 0) := blk_cell k0 0
    have c1 : W.cell? ⟨w.heap.size, 1, none⟩ = some (.int .i64 0) := blk_cell k0 1
    have c2 : W.cell? ⟨w.heap.size, 2, none⟩ = some (.int .i64 0) := blk_cell k0 2
    have c3 : W.cell? ⟨w.heap.size, 3, none⟩ = some (.slice none 0 0) := blk_cell k0 3
    have c4 : W.cell? ⟨w.heap.size, 4, none⟩ = some (.string ⟨#[]⟩) := blk_cell k0 4
    have f0 : W.frozen? ⟨w.heap.size, 0, none⟩ = false := blk_frozen k0 0
    have f1 : W.frozen? ⟨w.heap.size, 1, none⟩ = false := blk_frozen k0 1
    have f2 : W.frozen? ⟨w.heap.size, 2, none⟩ = false := blk_frozen k0 2
    have f3 : W.frozen? ⟨w.heap.size, 3, none⟩ = false := blk_frozen k0 3
    have f4 : W.frozen? ⟨w.heap.size, 4, none⟩ = false := blk_frozen k0 4
    have cn : W.cell? ⟨w.heap.size + 1, 0, none⟩ = some (.int .i64 0) := blk_cell k1 0
    have fn : W.frozen? ⟨w.heap.size + 1, 0, none⟩ = false := blk_frozen k1 0
    have ce : W.cell? ⟨w.heap.size + 1 + 1, 0, none⟩ = some (.int .i64 0) := blk_cell k2 0
    have fe : W.frozen? ⟨w.heap.size + 1 + 1, 0, none⟩ = false := blk_frozen k2 0
    go_wp2_with fail
    have j0 := blk_far (blk_put (blk_put (blk_put (blk_put (blk_put k0 0 (.int .i64 kd) rfl) 1 (.int .i64 sr) rfl) 2 (.int .i64 tk) rfl) 3 (.slice Av xs.length cv) rfl) 4 (.string dt) rfl) (p := ⟨w.heap.size + 1, 0, none⟩) (by simp) (.int .i64 n)
    have j1 := blk_put (blk_far (blk_far (blk_far (blk_far (blk_far k1 (p := ⟨w.heap.size, 0, none⟩) (by simp) (.int .i64 kd)) (p := ⟨w.heap.size, 1, none⟩) (by simp) (.int .i64 sr)) (p := ⟨w.heap.size, 2, none⟩) (by simp) (.int .i64 tk)) (p := ⟨w.heap.size, 3, none⟩) (by simp) (.slice Av xs.length cv)) (p := ⟨w.heap.size, 4, none⟩) (by simp) (.string dt)) 0 (.int .i64 n) rfl
    have j2 := blk_far (blk_far (blk_far (blk_far (blk_far (blk_far k2 (p := ⟨w.heap.size, 0, none⟩) (by simp; omega) (.int .i64 kd)) (p := ⟨w.heap.size, 1, none⟩) (by simp; omega) (.int .i64 sr)) (p := ⟨w.heap.size, 2, none⟩) (by simp; omega) (.int .i64 tk)) (p := ⟨w.heap.size, 3, none⟩) (by simp; omega) (.slice Av xs.length cv)) (p := ⟨w.heap.size, 4, none⟩) (by simp; omega) (.string dt)) (p := ⟨w.heap.size + 1, 0, none⟩) (by simp) (.int .i64 n)
    have jo := own_setCell (own_setCell (own_setCell (own_setCell (own_setCell (own_setCell ho' (p := ⟨w.heap.size, 0, none⟩) (own_ne ho' k0 (by decide)) (.int .i64 kd)) (p := ⟨w.heap.size, 1, none⟩) (own_ne ho' k0 (by decide)) (.int .i64 sr)) (p := ⟨w.heap.size, 2, none⟩) (own_ne ho' k0 (by decide)) (.int .i64 tk)) (p := ⟨w.heap.size, 3, none⟩) (own_ne ho' k0 (by decide)) (.slice Av xs.length cv)) (p := ⟨w.heap.size, 4, none⟩) (own_ne ho' k0 (by decide)) (.string dt)) (p := ⟨w.heap.size + 1, 0, none⟩) hnb (.int .i64 n)
    have jb := (((((hbw.setCell (p := ⟨w.heap.size, 0, none⟩) (Nat.le_refl _) (.int .i64 kd)).setCell (p := ⟨w.heap.size, 1, none⟩) (Nat.le_refl _) (.int .i64 sr)).setCell (p := ⟨w.heap.size, 2, none⟩) (Nat.le_refl _) (.int .i64 tk)).setCell (p := ⟨w.heap.size, 3, none⟩) (Nat.le_refl _) (.slice Av xs.length cv)).setCell (p := ⟨w.heap.size, 4, none⟩) (Nat.le_refl _) (.string dt)).setCell (p := ⟨w.heap.size + 1, 0, none⟩) (by simp) (.int .i64 n)
    clear c0 c1 c2 c3 c4 f0 f1 f2 f3 f4 cn fn ce fe k0 k1 k2 ho' ho hbw hbl
    obtain ⟨W2, hW2⟩ : ∃ W2, W2 = ((((((W.setCell ⟨w.heap.size, 0, none⟩ (.int .i64 kd)).setCell ⟨w.heap.size, 1, none⟩ (.int .i64 sr)).setCell ⟨w.heap.size, 2, none⟩ (.int .i64 tk)).setCell ⟨w.heap.size, 3, none⟩ (.slice Av xs.length cv)).setCell ⟨w.heap.size, 4, none⟩ (.string dt)).setCell ⟨w.heap.size + 1, 0, none⟩ (.int .i64 n)) := ⟨_, rfl⟩
    rw [← hW2] at j0 j1 j2 jo jb ⊢
    clear hW2
    have c0 : W2.cell? ⟨w.heap.size, 0, none⟩ = some (.int .i64 kd) := blk_cell j0 0
    have c1 : W2.cell? ⟨w.heap.size, 1, none⟩ = some (.int .i64 sr) := blk_cell j0 1
    have c2 : W2.cell? ⟨w.heap.size, 2, none⟩ = some (.int .i64 tk) := blk_cell j0 2
    have c3 : W2.cell? ⟨w.heap.size, 3, none⟩ = some (.slice Av xs.length cv) := blk_cell j0 3
    have c4 : W2.cell? ⟨w.heap.size, 4, none⟩ = some (.string dt) := blk_cell j0 4
    have f0 : W2.frozen? ⟨w.heap.size, 0, none⟩ = false := blk_frozen j0 0
    have f1 : W2.frozen? ⟨w.heap.size, 1, none⟩ = false := blk_frozen j0 1
    have f2 : W2.frozen? ⟨w.heap.size, 2, none⟩ = false := blk_frozen j0 2
    have f3 : W2.frozen? ⟨w.heap.size, 3, none⟩ = false := blk_frozen j0 3
    have f4 : W2.frozen? ⟨w.heap.size, 4, none⟩ = false := blk_frozen j0 4
    have cn : W2.cell? ⟨w.heap.size + 1, 0, none⟩ = some (.int .i64 n) := blk_cell j1 0
    have fn : W2.frozen? ⟨w.heap.size + 1, 0, none⟩ = false := blk_frozen j1 0
    have ce : W2.cell? ⟨w.heap.size + 1 + 1, 0, none⟩ = some (.int .i64 0) := blk_cell j2 0
    have fe : W2.frozen? ⟨w.heap.size + 1 + 1, 0, none⟩ = false := blk_frozen j2 0
    have jo3 := own_setCell (own_setCell (own_setCell (own_setCell (own_setCell (own_setCell (own_setCell jo (p := ⟨w.heap.size, 0, none⟩) (own_ne jo j0 (by decide)) (.int .i64 kd)) (p := ⟨w.heap.size, 1, none⟩) (own_ne jo j0 (by decide)) (.int .i64 sr)) (p := ⟨w.heap.size, 2, none⟩) (own_ne jo j0 (by decide)) (.int .i64 tk)) (p := ⟨w.heap.size, 3, none⟩) (own_ne jo j0 (by decide)) (.slice Av xs.length cv)) (p := ⟨w.heap.size, 4, none⟩) (own_ne jo j0 (by decide)) (.string dt)) (p := ⟨w.heap.size + 1, 0, none⟩) hnb (.int .i64 n)) (p := ⟨w.heap.size + 1 + 1, 0, none⟩) (own_ne jo j2 (by decide)) (.int .i64 0)
    have jb3 := ((((((jb.setCell (p := ⟨w.heap.size, 0, none⟩) (Nat.le_refl _) (.int .i64 kd)).setCell (p := ⟨w.heap.size, 1, none⟩) (Nat.le_refl _) (.int .i64 sr)).setCell (p := ⟨w.heap.size, 2, none⟩) (Nat.le_refl _) (.int .i64 tk)).setCell (p := ⟨w.heap.size, 3, none⟩) (Nat.le_refl _) (.slice Av xs.length cv)).setCell (p := ⟨w.heap.size, 4, none⟩) (Nat.le_refl _) (.string dt)).setCell (p := ⟨w.heap.size + 1, 0, none⟩) (by simp) (.int .i64 n)).setCell (p := ⟨w.heap.size + 1 + 1, 0, none⟩) (by simp; omega) (.int .i64 0)
    have Jo := Lib.hid (own_drew jo3)
    have Jb := Lib.hid (below_drew jb3)
    clear jo3 jb3 jo jb
    go_region
    go_wp2_with fail
    refine leaves_cons (f := 40) (args := #[.pointer (some ⟨w.heap.size, 0, none⟩), .pointer (some ⟨w.heap.size + 1, 0, none⟩), .pointer (some ⟨w.heap.size + 1 + 1, 0, none⟩)]) (by simp) (by simp [go_sem]) ?_
    refine (catch_idle _ _ _ _).mono ?_
    rintro e u' w'' ⟨rfl, rfl, rfl⟩
    refine ⟨.tuple #[.agg #[.int .i64 kd, .int .i64 sr, .int .i64 tk, .slice Av xs.length cv, .string dt], .int .i64 n, .int .i64 0], by simp [results, Try.results10, go_sem, *], .slice Av xs.length cv, rfl, Jo.out, Jb.out⟩
end Go.Proofs.Ytlkdehflipfpbaa
