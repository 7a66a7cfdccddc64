/- Loans opened out of their readings; the listed tables. (Printed by gen_vr.py.) -/
import Derived.Test.YtkifkjgkdfnhcaaDoorV8
import Derived.Test.YtkifkjgkdfnhcaaDoorRows
import Derived.Test.YtkifkjgkdfnhcaaDoorRw
import Derived.Deep.Slices
import Derived.Deep.Fields
import Derived.ChangeSame
import Derived.SizedLaws
import Derived.OpenShut
import Derived.LaidLaws
import Derived.Handed
import Derived.Lib.LaidTab
namespace Go.Proofs.YtkifkjgkdfnhcaaDoor
open Go.ChangeShapes Go.WideShapes Go.Deep Go.RowKit
open Vw
set_option maxRecDepth 20000
theorem own : ownKnob Tryd.prog.godebug = none := by kernel_rfl
theorem laidOut : laidOutB Tryd.prog = true := by kernel_rfl
theorem cells23 : Tryd.prog.cellsOf 23 = 13 := by kernel_rfl
theorem cells2 : Tryd.prog.cellsOf 2 = 1 := by kernel_rfl
theorem cells3 : Tryd.prog.cellsOf 3 = 1 := by kernel_rfl
theorem cells4 : Tryd.prog.cellsOf 4 = 1 := by kernel_rfl
theorem bounds_i64 {c : Int} (h : (Lit.int .i64 c).wf = true) : -9223372036854775808 ≤ c ∧ c ≤ 9223372036854775807 := by
  have e1 : IntKind.i64.min = -9223372036854775808 := rfl
  have e2 : IntKind.i64.max = 9223372036854775807 := rfl
  simp [Lit.wf, e1, e2] at h
  omega
section
variable {H : Type} {enc : TypeId × Value → H} {w : World} {base : Nat} {spare : Nat → Bool} {held : Bool}
theorem some_of {α : Type} {o : Option α} {l : List α} {i n : Nat} (h : o = l[i]?) (hl : l.length = n) (hi : i < n) : ∃ y, o = some y :=
  ⟨l[i]'(by omega), by rw [h, List.getElem?_eq_getElem]⟩
theorem cells_loan {fuel : Nat} {cs : List Value} {x : DataW H × List MemPlace} (h : DataW.trod enc Tryd.prog w base spare held fuel 23 cs = some x) :
    ∃ l : Ln, cs = l.cells.toList ∧ OkLn l := by
  obtain ⟨ys, n, _, _, hl, hyl, hf⟩ := DataW.trod_struct Tryd.underlying23 h
  rw [cells23] at hl
  match cs, hl with
  | [c0, c1, c2, c3, c4, c5, c6, c7, c8, c9, c10, c11, c12], _ =>
    obtain ⟨y0, g0⟩ := some_of (hf 0 _ rfl) hyl (by decide : 0 < 13)
    have h0 : DataW.trod enc Tryd.prog w base spare held n 3 (List.take (Tryd.prog.cellsOf 3) (List.drop 0 [c0, c1, c2, c3, c4, c5, c6, c7, c8, c9, c10, c11, c12])) = some y0 := g0
    rw [cells3] at h0
    obtain ⟨x0, e0, _, w0⟩ := DataW.trod_int Tryd.underlying3 h0
    have q0 : c0 = Value.int .i64 x0 := (List.cons.inj e0).1
    obtain ⟨y1, g1⟩ := some_of (hf 1 _ rfl) hyl (by decide : 1 < 13)
    have h1 : DataW.trod enc Tryd.prog w base spare held n 2 (List.take (Tryd.prog.cellsOf 2) (List.drop 1 [c0, c1, c2, c3, c4, c5, c6, c7, c8, c9, c10, c11, c12])) = some y1 := g1
    rw [cells2] at h1
    obtain ⟨x1, e1, _, w1⟩ := DataW.trod_int Tryd.underlying2 h1
    have q1 : c1 = Value.int .i64 x1 := (List.cons.inj e1).1
    obtain ⟨y2, g2⟩ := some_of (hf 2 _ rfl) hyl (by decide : 2 < 13)
    have h2 : DataW.trod enc Tryd.prog w base spare held n 2 (List.take (Tryd.prog.cellsOf 2) (List.drop 2 [c0, c1, c2, c3, c4, c5, c6, c7, c8, c9, c10, c11, c12])) = some y2 := g2
    rw [cells2] at h2
    obtain ⟨x2, e2, _, w2⟩ := DataW.trod_int Tryd.underlying2 h2
    have q2 : c2 = Value.int .i64 x2 := (List.cons.inj e2).1
    obtain ⟨y3, g3⟩ := some_of (hf 3 _ rfl) hyl (by decide : 3 < 13)
    have h3 : DataW.trod enc Tryd.prog w base spare held n 2 (List.take (Tryd.prog.cellsOf 2) (List.drop 3 [c0, c1, c2, c3, c4, c5, c6, c7, c8, c9, c10, c11, c12])) = some y3 := g3
    rw [cells2] at h3
    obtain ⟨x3, e3, _, w3⟩ := DataW.trod_int Tryd.underlying2 h3
    have q3 : c3 = Value.int .i64 x3 := (List.cons.inj e3).1
    obtain ⟨y4, g4⟩ := some_of (hf 4 _ rfl) hyl (by decide : 4 < 13)
    have h4 : DataW.trod enc Tryd.prog w base spare held n 2 (List.take (Tryd.prog.cellsOf 2) (List.drop 4 [c0, c1, c2, c3, c4, c5, c6, c7, c8, c9, c10, c11, c12])) = some y4 := g4
    rw [cells2] at h4
    obtain ⟨x4, e4, _, w4⟩ := DataW.trod_int Tryd.underlying2 h4
    have q4 : c4 = Value.int .i64 x4 := (List.cons.inj e4).1
    obtain ⟨y5, g5⟩ := some_of (hf 5 _ rfl) hyl (by decide : 5 < 13)
    have h5 : DataW.trod enc Tryd.prog w base spare held n 3 (List.take (Tryd.prog.cellsOf 3) (List.drop 5 [c0, c1, c2, c3, c4, c5, c6, c7, c8, c9, c10, c11, c12])) = some y5 := g5
    rw [cells3] at h5
    obtain ⟨x5, e5, _, w5⟩ := DataW.trod_int Tryd.underlying3 h5
    have q5 : c5 = Value.int .i64 x5 := (List.cons.inj e5).1
    obtain ⟨y6, g6⟩ := some_of (hf 6 _ rfl) hyl (by decide : 6 < 13)
    have h6 : DataW.trod enc Tryd.prog w base spare held n 4 (List.take (Tryd.prog.cellsOf 4) (List.drop 6 [c0, c1, c2, c3, c4, c5, c6, c7, c8, c9, c10, c11, c12])) = some y6 := g6
    rw [cells4] at h6
    obtain ⟨x6, e6, _⟩ := DataW.trod_bool Tryd.underlying4 h6
    have q6 : c6 = Value.bool x6 := (List.cons.inj e6).1
    obtain ⟨y7, g7⟩ := some_of (hf 7 _ rfl) hyl (by decide : 7 < 13)
    have h7 : DataW.trod enc Tryd.prog w base spare held n 3 (List.take (Tryd.prog.cellsOf 3) (List.drop 7 [c0, c1, c2, c3, c4, c5, c6, c7, c8, c9, c10, c11, c12])) = some y7 := g7
    rw [cells3] at h7
    obtain ⟨x7, e7, _, w7⟩ := DataW.trod_int Tryd.underlying3 h7
    have q7 : c7 = Value.int .i64 x7 := (List.cons.inj e7).1
    obtain ⟨y8, g8⟩ := some_of (hf 8 _ rfl) hyl (by decide : 8 < 13)
    have h8 : DataW.trod enc Tryd.prog w base spare held n 3 (List.take (Tryd.prog.cellsOf 3) (List.drop 8 [c0, c1, c2, c3, c4, c5, c6, c7, c8, c9, c10, c11, c12])) = some y8 := g8
    rw [cells3] at h8
    obtain ⟨x8, e8, _, w8⟩ := DataW.trod_int Tryd.underlying3 h8
    have q8 : c8 = Value.int .i64 x8 := (List.cons.inj e8).1
    obtain ⟨y9, g9⟩ := some_of (hf 9 _ rfl) hyl (by decide : 9 < 13)
    have h9 : DataW.trod enc Tryd.prog w base spare held n 3 (List.take (Tryd.prog.cellsOf 3) (List.drop 9 [c0, c1, c2, c3, c4, c5, c6, c7, c8, c9, c10, c11, c12])) = some y9 := g9
    rw [cells3] at h9
    obtain ⟨x9, e9, _, w9⟩ := DataW.trod_int Tryd.underlying3 h9
    have q9 : c9 = Value.int .i64 x9 := (List.cons.inj e9).1
    obtain ⟨y10, g10⟩ := some_of (hf 10 _ rfl) hyl (by decide : 10 < 13)
    have h10 : DataW.trod enc Tryd.prog w base spare held n 2 (List.take (Tryd.prog.cellsOf 2) (List.drop 10 [c0, c1, c2, c3, c4, c5, c6, c7, c8, c9, c10, c11, c12])) = some y10 := g10
    rw [cells2] at h10
    obtain ⟨x10, e10, _, w10⟩ := DataW.trod_int Tryd.underlying2 h10
    have q10 : c10 = Value.int .i64 x10 := (List.cons.inj e10).1
    obtain ⟨y11, g11⟩ := some_of (hf 11 _ rfl) hyl (by decide : 11 < 13)
    have h11 : DataW.trod enc Tryd.prog w base spare held n 2 (List.take (Tryd.prog.cellsOf 2) (List.drop 11 [c0, c1, c2, c3, c4, c5, c6, c7, c8, c9, c10, c11, c12])) = some y11 := g11
    rw [cells2] at h11
    obtain ⟨x11, e11, _, w11⟩ := DataW.trod_int Tryd.underlying2 h11
    have q11 : c11 = Value.int .i64 x11 := (List.cons.inj e11).1
    obtain ⟨y12, g12⟩ := some_of (hf 12 _ rfl) hyl (by decide : 12 < 13)
    have h12 : DataW.trod enc Tryd.prog w base spare held n 3 (List.take (Tryd.prog.cellsOf 3) (List.drop 12 [c0, c1, c2, c3, c4, c5, c6, c7, c8, c9, c10, c11, c12])) = some y12 := g12
    rw [cells3] at h12
    obtain ⟨x12, e12, _, w12⟩ := DataW.trod_int Tryd.underlying3 h12
    have q12 : c12 = Value.int .i64 x12 := (List.cons.inj e12).1
    subst q0 q1 q2 q3 q4 q5 q6 q7 q8 q9 q10 q11 q12
    exact ⟨⟨x0, x1, x2, x3, x4, x5, x6, x7, x8, x9, x10, x11, x12⟩, rfl, bounds_i64 w0, bounds_i64 w1, bounds_i64 w2, bounds_i64 w3, bounds_i64 w4, bounds_i64 w5, bounds_i64 w7, bounds_i64 w8, bounds_i64 w9, bounds_i64 w10, bounds_i64 w11, bounds_i64 w12⟩
theorem open_loan {r : Reach} {b0 : Nat} {v : Value} {d : DataW H} {ps : List MemPlace} (hv : Value.okWide Tryd.prog w r b0 23 v) (h : DataW.Trod enc Tryd.prog w base spare held 23 v d ps) :
    ∃ l : Ln, v = l.v ∧ OkLn l := by
  simp only [Value.okWide, Tryd.underlying23] at hv
  obtain ⟨cs, rfl, _, _⟩ := hv
  obtain ⟨fuel, hf⟩ := h
  obtain ⟨l, he, ho⟩ := cells_loan hf
  have h2 : cs.toList = l.cells.toList := he
  refine ⟨l, ?_, ho⟩
  rw [Array.toList_inj.1 h2]
end
/-- The rows' three listed tables. -/
abbrev laids : List (String × DataW Unit) := [("math/bits.deBruijn32tab", Rows.laid_math_bits_deBruijn32tab), ("math/bits.deBruijn64tab", Rows.laid_math_bits_deBruijn64tab), ("internal/strconv.uint64pow10", Rows.laid_internal_strconv_uint64pow10)]
theorem global0 : Tryd.prog.globalNamed "internal/strconv.uint64pow10" = some 0 := by kernel_rfl
theorem gtype0 : (Tryd.prog.globals[0]?).map (·.type) = some 125 := by kernel_rfl
theorem cells125 : Tryd.prog.cellsOf 125 = 20 := by kernel_rfl
theorem cells49 : Tryd.prog.cellsOf 49 = 1 := by kernel_rfl
theorem tab_of {W : World} (h : laidMet Tryd.prog laids W) : Tab W := by
  obtain ⟨ps, ⟨_, _, _, _, _, _, _, _, _, _, ⟨_, _, _, _, _, _, _, _, _, _, ⟨g', t', cs, fuel, p, q, hg', ht', hvar, hd, _, _⟩, _⟩, _⟩, _⟩ := h
  obtain rfl := Option.some.inj (global0.symm.trans hg')
  obtain rfl := Option.some.inj (gtype0.symm.trans ht')
  unfold Tab Lib.TabIs
  rw [hvar]
  have h2 := Lib.cells_of_tab (zs := Lib.pow10Tab) Tryd.underlying125 Tryd.underlying49 cells49 cells125 hd
  obtain ⟨l⟩ := cs
  simp only at h2
  rw [h2]
/-- The settled world with the three tables laid. -/
noncomputable def laidWorld (os : Os) : World :=
  let w0 := World.holding Tryd.prog os ⟨#[], #[], []⟩
  { w0 with heap := ((w0.heap.modify 0 fun
      | .cells _ t frozen => .cells #[.int .u64 1, .int .u64 10, .int .u64 100, .int .u64 1000, .int .u64 10000, .int .u64 100000, .int .u64 1000000, .int .u64 10000000, .int .u64 100000000, .int .u64 1000000000, .int .u64 10000000000, .int .u64 100000000000, .int .u64 1000000000000, .int .u64 10000000000000, .int .u64 100000000000000, .int .u64 1000000000000000, .int .u64 10000000000000000, .int .u64 100000000000000000, .int .u64 1000000000000000000, .int .u64 10000000000000000000] t frozen
      | o => o).modify 2 fun
      | .cells _ t frozen => .cells #[.int .u8 0, .int .u8 1, .int .u8 28, .int .u8 2, .int .u8 29, .int .u8 14, .int .u8 24, .int .u8 3, .int .u8 30, .int .u8 22, .int .u8 20, .int .u8 15, .int .u8 25, .int .u8 17, .int .u8 4, .int .u8 8, .int .u8 31, .int .u8 27, .int .u8 13, .int .u8 23, .int .u8 21, .int .u8 19, .int .u8 16, .int .u8 7, .int .u8 26, .int .u8 12, .int .u8 18, .int .u8 6, .int .u8 11, .int .u8 5, .int .u8 10, .int .u8 9] t frozen
      | o => o).modify 3 fun
      | .cells _ t frozen => .cells #[.int .u8 0, .int .u8 1, .int .u8 56, .int .u8 2, .int .u8 57, .int .u8 49, .int .u8 28, .int .u8 3, .int .u8 61, .int .u8 58, .int .u8 42, .int .u8 50, .int .u8 38, .int .u8 29, .int .u8 17, .int .u8 4, .int .u8 62, .int .u8 47, .int .u8 59, .int .u8 36, .int .u8 45, .int .u8 43, .int .u8 51, .int .u8 22, .int .u8 53, .int .u8 39, .int .u8 33, .int .u8 30, .int .u8 24, .int .u8 18, .int .u8 12, .int .u8 5, .int .u8 63, .int .u8 55, .int .u8 48, .int .u8 27, .int .u8 60, .int .u8 41, .int .u8 37, .int .u8 16, .int .u8 46, .int .u8 35, .int .u8 44, .int .u8 21, .int .u8 52, .int .u8 32, .int .u8 23, .int .u8 11, .int .u8 54, .int .u8 26, .int .u8 40, .int .u8 15, .int .u8 34, .int .u8 20, .int .u8 31, .int .u8 10, .int .u8 25, .int .u8 14, .int .u8 19, .int .u8 9, .int .u8 13, .int .u8 8, .int .u8 7, .int .u8 6] t frozen
      | o => o }
theorem laid_met (os : Os) (args : Array Value) : laidMet Tryd.prog laids ((laidWorld os).forCall (fun _ _ => 0) ⟨#[], args, []⟩).memory :=
  laidMet_of_run' 80 (by kernel_rfl) (by kernel_rfl)
theorem readsV (t : TypeId) (h : t = 2 ∨ t = 3 ∨ t = 23 ∨ t = 33 ∨ t = 41) : Tryd.prog.readableRec t = true ∧ t < Tryd.prog.types.size := by
  rcases h with rfl | rfl | rfl | rfl | rfl <;> exact ⟨by kernel_rfl, of_decide_eq_true (by kernel_rfl)⟩
end Go.Proofs.YtkifkjgkdfnhcaaDoor
