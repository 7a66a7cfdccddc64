/- Events and commands opened out of their readings; closed facts. (Printed by gen_er.py.) -/
import Derived.Test.YtadcpdpcpecooaaE17
import Derived.Test.YtadcpdpcpecooaaRows
import Derived.Test.YtadcpdpcpecooaaRw
import Derived.Deep.Slices
import Derived.Deep.Fields
import Derived.ChangeSame
import Derived.SizedLaws
import Derived.OpenShut
namespace Go.Proofs.Ytadcpdpcpecooaa
open Go.ChangeShapes Go.WideShapes Go.Deep Go.RowKit
open Ev
set_option maxRecDepth 20000
theorem own : ownKnob Try.prog.godebug = none := by kernel_rfl
theorem laidOut : laidOutB Try.prog = true := by kernel_rfl
theorem cells25 : Try.prog.cellsOf 25 = 11 := by kernel_rfl
theorem cells27 : Try.prog.cellsOf 27 = 14 := by kernel_rfl
theorem cells2 : Try.prog.cellsOf 2 = 1 := by kernel_rfl
theorem cells3 : Try.prog.cellsOf 3 = 1 := by kernel_rfl
theorem cells4 : Try.prog.cellsOf 4 = 1 := by kernel_rfl
theorem cells22 : Try.prog.cellsOf 22 = 1 := by kernel_rfl
theorem cells23 : Try.prog.cellsOf 23 = 1 := by kernel_rfl
section
variable {H : Type} {enc : TypeId × Value → H} {w : World} {base : Nat} {spare : Nat → Bool} {held : Bool}
theorem trod_float {P : Program} {t : TypeId} {k : FloatKind} {fuel : Nat} {cs : List Value} {x : DataW H × List MemPlace} (ht : P.underlying t = some (.float k)) (h : DataW.trod enc P w base spare held fuel t cs = some x) :
    ∃ b, cs = [.float k b] ∧ x = (.lit (.float k b), []) ∧ (Lit.float k b).wf = true := by
  cases fuel with
  | zero => simp [DataW.trod] at h
  | succ n =>
    unfold DataW.trod at h
    rw [ht] at h
    split at h <;> simp_all
theorem some_of {α : Type} {o : Option α} {l : List α} {i n : Nat} (h : o = l[i]?) (hl : l.length = n) (hi : i < n) : ∃ y, o = some y :=
  ⟨l[i]'(by omega), by rw [h, List.getElem?_eq_getElem]⟩

theorem cells_event {fuel : Nat} {cs : List Value} {x : DataW H × List MemPlace} (h : DataW.trod enc Try.prog w base spare held fuel 25 cs = some x) :
    ∃ e : E, cs = e.cells.toList ∧ Ok e := by
  obtain ⟨ys, n, _, _, hl, hyl, hf⟩ := DataW.trod_struct Try.underlying25 h
  rw [cells25] at hl
  match cs, hl with
  | [c0, c1, c2, c3, c4, c5, c6, c7, c8, c9, c10], _ =>
    obtain ⟨y0, g0⟩ := some_of (hf 0 _ rfl) hyl (by decide : 0 < 11)
    have h0 : DataW.trod enc Try.prog w base spare held n 3 (List.take (Try.prog.cellsOf 3) (List.drop 0 [c0, c1, c2, c3, c4, c5, c6, c7, c8, c9, c10])) = some y0 := g0
    rw [cells3] at h0
    obtain ⟨x0, e0, _, _⟩ := DataW.trod_int Try.underlying3 h0
    have q0 : c0 = Value.int .i64 x0 := (List.cons.inj e0).1
    obtain ⟨y1, g1⟩ := some_of (hf 1 _ rfl) hyl (by decide : 1 < 11)
    have h1 : DataW.trod enc Try.prog w base spare held n 3 (List.take (Try.prog.cellsOf 3) (List.drop 1 [c0, c1, c2, c3, c4, c5, c6, c7, c8, c9, c10])) = some y1 := g1
    rw [cells3] at h1
    obtain ⟨x1, e1, _, _⟩ := DataW.trod_int Try.underlying3 h1
    have q1 : c1 = Value.int .i64 x1 := (List.cons.inj e1).1
    obtain ⟨y2, g2⟩ := some_of (hf 2 _ rfl) hyl (by decide : 2 < 11)
    have h2 : DataW.trod enc Try.prog w base spare held n 22 (List.take (Try.prog.cellsOf 22) (List.drop 2 [c0, c1, c2, c3, c4, c5, c6, c7, c8, c9, c10])) = some y2 := g2
    rw [cells22] at h2
    obtain ⟨x2, e2, _, w2⟩ := DataW.trod_int Try.underlying22 h2
    have q2 : c2 = Value.int .u32 x2 := (List.cons.inj e2).1
    obtain ⟨y3, g3⟩ := some_of (hf 3 _ rfl) hyl (by decide : 3 < 11)
    have h3 : DataW.trod enc Try.prog w base spare held n 3 (List.take (Try.prog.cellsOf 3) (List.drop 3 [c0, c1, c2, c3, c4, c5, c6, c7, c8, c9, c10])) = some y3 := g3
    rw [cells3] at h3
    obtain ⟨x3, e3, _, _⟩ := DataW.trod_int Try.underlying3 h3
    have q3 : c3 = Value.int .i64 x3 := (List.cons.inj e3).1
    obtain ⟨y4, g4⟩ := some_of (hf 4 _ rfl) hyl (by decide : 4 < 11)
    have h4 : DataW.trod enc Try.prog w base spare held n 2 (List.take (Try.prog.cellsOf 2) (List.drop 4 [c0, c1, c2, c3, c4, c5, c6, c7, c8, c9, c10])) = some y4 := g4
    rw [cells2] at h4
    obtain ⟨x4, e4, _, _⟩ := DataW.trod_int Try.underlying2 h4
    have q4 : c4 = Value.int .i64 x4 := (List.cons.inj e4).1
    obtain ⟨y5, g5⟩ := some_of (hf 5 _ rfl) hyl (by decide : 5 < 11)
    have h5 : DataW.trod enc Try.prog w base spare held n 23 (List.take (Try.prog.cellsOf 23) (List.drop 5 [c0, c1, c2, c3, c4, c5, c6, c7, c8, c9, c10])) = some y5 := g5
    rw [cells23] at h5
    obtain ⟨x5, e5, _, w5⟩ := trod_float Try.underlying23 h5
    have q5 : c5 = Value.float .f64 x5 := (List.cons.inj e5).1
    obtain ⟨y6, g6⟩ := some_of (hf 6 _ rfl) hyl (by decide : 6 < 11)
    have h6 : DataW.trod enc Try.prog w base spare held n 23 (List.take (Try.prog.cellsOf 23) (List.drop 6 [c0, c1, c2, c3, c4, c5, c6, c7, c8, c9, c10])) = some y6 := g6
    rw [cells23] at h6
    obtain ⟨x6, e6, _, w6⟩ := trod_float Try.underlying23 h6
    have q6 : c6 = Value.float .f64 x6 := (List.cons.inj e6).1
    obtain ⟨y7, g7⟩ := some_of (hf 7 _ rfl) hyl (by decide : 7 < 11)
    have h7 : DataW.trod enc Try.prog w base spare held n 4 (List.take (Try.prog.cellsOf 4) (List.drop 7 [c0, c1, c2, c3, c4, c5, c6, c7, c8, c9, c10])) = some y7 := g7
    rw [cells4] at h7
    obtain ⟨x7, e7, _⟩ := DataW.trod_bool Try.underlying4 h7
    have q7 : c7 = Value.bool x7 := (List.cons.inj e7).1
    obtain ⟨y8, g8⟩ := some_of (hf 8 _ rfl) hyl (by decide : 8 < 11)
    have h8 : DataW.trod enc Try.prog w base spare held n 3 (List.take (Try.prog.cellsOf 3) (List.drop 8 [c0, c1, c2, c3, c4, c5, c6, c7, c8, c9, c10])) = some y8 := g8
    rw [cells3] at h8
    obtain ⟨x8, e8, _, _⟩ := DataW.trod_int Try.underlying3 h8
    have q8 : c8 = Value.int .i64 x8 := (List.cons.inj e8).1
    obtain ⟨y9, g9⟩ := some_of (hf 9 _ rfl) hyl (by decide : 9 < 11)
    have h9 : DataW.trod enc Try.prog w base spare held n 3 (List.take (Try.prog.cellsOf 3) (List.drop 9 [c0, c1, c2, c3, c4, c5, c6, c7, c8, c9, c10])) = some y9 := g9
    rw [cells3] at h9
    obtain ⟨x9, e9, _, _⟩ := DataW.trod_int Try.underlying3 h9
    have q9 : c9 = Value.int .i64 x9 := (List.cons.inj e9).1
    obtain ⟨y10, g10⟩ := some_of (hf 10 _ rfl) hyl (by decide : 10 < 11)
    have h10 : DataW.trod enc Try.prog w base spare held n 3 (List.take (Try.prog.cellsOf 3) (List.drop 10 [c0, c1, c2, c3, c4, c5, c6, c7, c8, c9, c10])) = some y10 := g10
    rw [cells3] at h10
    obtain ⟨x10, e10, _, _⟩ := DataW.trod_int Try.underlying3 h10
    have q10 : c10 = Value.int .i64 x10 := (List.cons.inj e10).1
    subst q0 q1 q2 q3 q4 q5 q6 q7 q8 q9 q10
    refine ⟨⟨x0, x1, x2, x3, x4, x5, x6, x7, x8, x9, x10⟩, rfl, ?_, ?_, ?_⟩
    · have := bounds_u32 w2
      exact (show 0 ≤ x2 ∧ x2 < 4294967296 by omega)
    · simpa [Lit.wf] using w5
    · simpa [Lit.wf] using w6
theorem open_event {r : Reach} {b0 : Nat} {v : Value} {d : DataW H} {ps : List MemPlace} (hv : Value.okWide Try.prog w r b0 25 v) (h : DataW.Trod enc Try.prog w base spare held 25 v d ps) :
    ∃ e : E, v = e.v ∧ Ok e := by
  simp only [Value.okWide, Try.underlying25] at hv
  obtain ⟨cs, rfl, _, _⟩ := hv
  obtain ⟨fuel, hf⟩ := h
  obtain ⟨e, he, ho⟩ := cells_event hf
  have h2 : cs.toList = e.cells.toList := he
  refine ⟨e, ?_, ho⟩
  rw [Array.toList_inj.1 h2]

theorem cells_command {fuel : Nat} {cs : List Value} {x : DataW H × List MemPlace} (h : DataW.trod enc Try.prog w base spare held fuel 27 cs = some x) :
    ∃ c : C, cs = c.cells.toList ∧ OkC c := by
  obtain ⟨ys, n, _, _, hl, hyl, hf⟩ := DataW.trod_struct Try.underlying27 h
  rw [cells27] at hl
  match cs, hl with
  | [c0, c1, c2, c3, c4, c5, c6, c7, c8, c9, c10, c11, c12, c13], _ =>
    obtain ⟨y0, g0⟩ := some_of (hf 0 _ rfl) hyl (by decide : 0 < 4)
    have h0 : DataW.trod enc Try.prog w base spare held n 4 (List.take (Try.prog.cellsOf 4) (List.drop 0 [c0, c1, c2, c3, c4, c5, c6, c7, c8, c9, c10, c11, c12, c13])) = some y0 := g0
    rw [cells4] at h0
    obtain ⟨y1, g1⟩ := some_of (hf 1 _ rfl) hyl (by decide : 1 < 4)
    have h1 : DataW.trod enc Try.prog w base spare held n 22 (List.take (Try.prog.cellsOf 22) (List.drop 1 [c0, c1, c2, c3, c4, c5, c6, c7, c8, c9, c10, c11, c12, c13])) = some y1 := g1
    rw [cells22] at h1
    obtain ⟨y2, g2⟩ := some_of (hf 2 _ rfl) hyl (by decide : 2 < 4)
    have h2 : DataW.trod enc Try.prog w base spare held n 25 (List.take (Try.prog.cellsOf 25) (List.drop 2 [c0, c1, c2, c3, c4, c5, c6, c7, c8, c9, c10, c11, c12, c13])) = some y2 := g2
    rw [cells25] at h2
    obtain ⟨y3, g3⟩ := some_of (hf 3 _ rfl) hyl (by decide : 3 < 4)
    have h3 : DataW.trod enc Try.prog w base spare held n 22 (List.take (Try.prog.cellsOf 22) (List.drop 13 [c0, c1, c2, c3, c4, c5, c6, c7, c8, c9, c10, c11, c12, c13])) = some y3 := g3
    rw [cells22] at h3
    obtain ⟨x0, e0, _⟩ := DataW.trod_bool Try.underlying4 h0
    have q0 : c0 = Value.bool x0 := (List.cons.inj e0).1
    obtain ⟨x1, e1, _, w1⟩ := DataW.trod_int Try.underlying22 h1
    have q1 : c1 = Value.int .u32 x1 := (List.cons.inj e1).1
    obtain ⟨x3, e3, _, w3⟩ := DataW.trod_int Try.underlying22 h3
    have q13 : c13 = Value.int .u32 x3 := (List.cons.inj e3).1
    obtain ⟨e, he, ho⟩ := cells_event h2
    have hc : [c2, c3, c4, c5, c6, c7, c8, c9, c10, c11, c12] = e.cells.toList := he
    simp only [List.cons.injEq, and_true] at hc
    obtain ⟨rfl, rfl, rfl, rfl, rfl, rfl, rfl, rfl, rfl, rfl, rfl⟩ := hc
    subst q0 q1 q13
    have b1 := bounds_u32 w1
    have b3 := bounds_u32 w3
    exact ⟨⟨x0, x1, e, x3⟩, rfl, ho, (show 0 ≤ x1 ∧ x1 < 256 ^ 4 by omega), (show 0 ≤ x3 ∧ x3 < 256 ^ 4 by omega)⟩
theorem open_command {r : Reach} {b0 : Nat} {v : Value} {d : DataW H} {ps : List MemPlace} (hv : Value.okWide Try.prog w r b0 27 v) (h : DataW.Trod enc Try.prog w base spare held 27 v d ps) :
    ∃ c : C, v = c.v ∧ OkC c := by
  simp only [Value.okWide, Try.underlying27] at hv
  obtain ⟨cs, rfl, _, _⟩ := hv
  obtain ⟨fuel, hf⟩ := h
  obtain ⟨c, he, ho⟩ := cells_command hf
  have h2 : cs.toList = c.cells.toList := he
  refine ⟨c, ?_, ho⟩
  rw [Array.toList_inj.1 h2]
end
theorem readsE (t : TypeId) (h : t = 25 ∨ t = 27 ∨ t = 5 ∨ t = 9) : Try.prog.readableRec t = true ∧ t < Try.prog.types.size := by
  rcases h with rfl | rfl | rfl | rfl <;> exact ⟨by kernel_rfl, of_decide_eq_true (by kernel_rfl)⟩
end Go.Proofs.Ytadcpdpcpecooaa
