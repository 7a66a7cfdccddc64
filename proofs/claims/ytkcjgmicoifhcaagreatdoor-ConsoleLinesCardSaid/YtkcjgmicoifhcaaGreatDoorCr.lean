/- Commands opened out of their readings; the listed tables. (Printed by gen_cr.py.) -/
import Derived.Test.YtkcjgmicoifhcaaGreatDoorM6
import Derived.Test.YtkcjgmicoifhcaaGreatDoorM3
import Derived.Test.YtkcjgmicoifhcaaGreatDoorRows
import Derived.Test.YtkcjgmicoifhcaaGreatDoorRw
import Derived.Deep.Slices
import Derived.Deep.Fields
import Derived.ChangeSame
import Derived.SizedLaws
import Derived.OpenShut
import Derived.LaidLaws
import Derived.Handed
import Derived.Lib.LaidTab
import Derived.Stop.LaidErr
import Derived.ChangeMaps5
namespace Go.Proofs.YtkcjgmicoifhcaaGreatDoor
open Go.ChangeShapes Go.WideShapes Go.Deep Go.RowKit
open Vw (Tab str)
open Ev (E C)
set_option maxRecDepth 20000
theorem bounds_u32 {c : Int} (h : (Lit.int .u32 c).wf = true) : 0 ≤ c ∧ c ≤ 4294967295 := by
  have e1 : IntKind.u32.min = 0 := rfl
  have e2 : IntKind.u32.max = 4294967295 := rfl
  simp [Lit.wf, e1, e2] at h
  omega
structure OkEn (e : E) : Prop where
  key : 0 ≤ e.key ∧ e.key < 4294967296
  rate : e.rate < 18446744073709551616
  income : e.income < 18446744073709551616
structure OkCn (c : C) : Prop where
  e : OkEn c.e
  key : 0 ≤ c.key ∧ c.key < 4294967296
  of : 0 ≤ c.of ∧ c.of < 4294967296
theorem own : ownKnob Tryz.prog.godebug = none := by kernel_rfl
theorem laidOut : laidOutB Tryz.prog = true := by kernel_rfl
theorem cells25 : Tryz.prog.cellsOf 25 = 11 := by kernel_rfl
theorem cells27 : Tryz.prog.cellsOf 27 = 14 := by kernel_rfl
theorem cells2 : Tryz.prog.cellsOf 2 = 1 := by kernel_rfl
theorem cells3 : Tryz.prog.cellsOf 3 = 1 := by kernel_rfl
theorem cells4 : Tryz.prog.cellsOf 4 = 1 := by kernel_rfl
theorem cells22 : Tryz.prog.cellsOf 22 = 1 := by kernel_rfl
theorem cells23 : Tryz.prog.cellsOf 23 = 1 := by kernel_rfl
section
variable {H : Type} {enc : TypeId × Value → H} {w : World} {base : Nat} {spare : Nat → Bool} {held : Bool}
theorem trod_float {P : Program} {t : TypeId} {k : FloatKind} {fuel : Nat} {cs : List Value} {x : DataW H × List MemPlace} (ht : P.underlying t = some (.float k)) (h : DataW.trod enc P w base spare held fuel t cs = some x) :
    ∃ b, cs = [.float k b] ∧ x = (.lit (.float k b), []) ∧ (Lit.float k b).wf = true := by
  cases fuel with
  | zero => simp [DataW.trod] at h
  | succ n =>
    unfold DataW.trod at h
    rw [ht] at h
    split at h <;> simp_all
theorem some_of {α : Type} {o : Option α} {l : List α} {i n : Nat} (h : o = l[i]?) (hl : l.length = n) (hi : i < n) : ∃ y, o = some y :=
  ⟨l[i]'(by omega), by rw [h, List.getElem?_eq_getElem]⟩

theorem cells_event {fuel : Nat} {cs : List Value} {x : DataW H × List MemPlace} (h : DataW.trod enc Tryz.prog w base spare held fuel 25 cs = some x) :
    ∃ e : E, cs = e.cells.toList ∧ OkEn e := by
  obtain ⟨ys, n, _, _, hl, hyl, hf⟩ := DataW.trod_struct Tryz.underlying25 h
  rw [cells25] at hl
  match cs, hl with
  | [c0, c1, c2, c3, c4, c5, c6, c7, c8, c9, c10], _ =>
    obtain ⟨y0, g0⟩ := some_of (hf 0 _ rfl) hyl (by decide : 0 < 11)
    have h0 : DataW.trod enc Tryz.prog w base spare held n 3 (List.take (Tryz.prog.cellsOf 3) (List.drop 0 [c0, c1, c2, c3, c4, c5, c6, c7, c8, c9, c10])) = some y0 := g0
    rw [cells3] at h0
    obtain ⟨x0, e0, _, _⟩ := DataW.trod_int Tryz.underlying3 h0
    have q0 : c0 = Value.int .i64 x0 := (List.cons.inj e0).1
    obtain ⟨y1, g1⟩ := some_of (hf 1 _ rfl) hyl (by decide : 1 < 11)
    have h1 : DataW.trod enc Tryz.prog w base spare held n 3 (List.take (Tryz.prog.cellsOf 3) (List.drop 1 [c0, c1, c2, c3, c4, c5, c6, c7, c8, c9, c10])) = some y1 := g1
    rw [cells3] at h1
    obtain ⟨x1, e1, _, _⟩ := DataW.trod_int Tryz.underlying3 h1
    have q1 : c1 = Value.int .i64 x1 := (List.cons.inj e1).1
    obtain ⟨y2, g2⟩ := some_of (hf 2 _ rfl) hyl (by decide : 2 < 11)
    have h2 : DataW.trod enc Tryz.prog w base spare held n 22 (List.take (Tryz.prog.cellsOf 22) (List.drop 2 [c0, c1, c2, c3, c4, c5, c6, c7, c8, c9, c10])) = some y2 := g2
    rw [cells22] at h2
    obtain ⟨x2, e2, _, w2⟩ := DataW.trod_int Tryz.underlying22 h2
    have q2 : c2 = Value.int .u32 x2 := (List.cons.inj e2).1
    obtain ⟨y3, g3⟩ := some_of (hf 3 _ rfl) hyl (by decide : 3 < 11)
    have h3 : DataW.trod enc Tryz.prog w base spare held n 3 (List.take (Tryz.prog.cellsOf 3) (List.drop 3 [c0, c1, c2, c3, c4, c5, c6, c7, c8, c9, c10])) = some y3 := g3
    rw [cells3] at h3
    obtain ⟨x3, e3, _, _⟩ := DataW.trod_int Tryz.underlying3 h3
    have q3 : c3 = Value.int .i64 x3 := (List.cons.inj e3).1
    obtain ⟨y4, g4⟩ := some_of (hf 4 _ rfl) hyl (by decide : 4 < 11)
    have h4 : DataW.trod enc Tryz.prog w base spare held n 2 (List.take (Tryz.prog.cellsOf 2) (List.drop 4 [c0, c1, c2, c3, c4, c5, c6, c7, c8, c9, c10])) = some y4 := g4
    rw [cells2] at h4
    obtain ⟨x4, e4, _, _⟩ := DataW.trod_int Tryz.underlying2 h4
    have q4 : c4 = Value.int .i64 x4 := (List.cons.inj e4).1
    obtain ⟨y5, g5⟩ := some_of (hf 5 _ rfl) hyl (by decide : 5 < 11)
    have h5 : DataW.trod enc Tryz.prog w base spare held n 23 (List.take (Tryz.prog.cellsOf 23) (List.drop 5 [c0, c1, c2, c3, c4, c5, c6, c7, c8, c9, c10])) = some y5 := g5
    rw [cells23] at h5
    obtain ⟨x5, e5, _, w5⟩ := trod_float Tryz.underlying23 h5
    have q5 : c5 = Value.float .f64 x5 := (List.cons.inj e5).1
    obtain ⟨y6, g6⟩ := some_of (hf 6 _ rfl) hyl (by decide : 6 < 11)
    have h6 : DataW.trod enc Tryz.prog w base spare held n 23 (List.take (Tryz.prog.cellsOf 23) (List.drop 6 [c0, c1, c2, c3, c4, c5, c6, c7, c8, c9, c10])) = some y6 := g6
    rw [cells23] at h6
    obtain ⟨x6, e6, _, w6⟩ := trod_float Tryz.underlying23 h6
    have q6 : c6 = Value.float .f64 x6 := (List.cons.inj e6).1
    obtain ⟨y7, g7⟩ := some_of (hf 7 _ rfl) hyl (by decide : 7 < 11)
    have h7 : DataW.trod enc Tryz.prog w base spare held n 4 (List.take (Tryz.prog.cellsOf 4) (List.drop 7 [c0, c1, c2, c3, c4, c5, c6, c7, c8, c9, c10])) = some y7 := g7
    rw [cells4] at h7
    obtain ⟨x7, e7, _⟩ := DataW.trod_bool Tryz.underlying4 h7
    have q7 : c7 = Value.bool x7 := (List.cons.inj e7).1
    obtain ⟨y8, g8⟩ := some_of (hf 8 _ rfl) hyl (by decide : 8 < 11)
    have h8 : DataW.trod enc Tryz.prog w base spare held n 3 (List.take (Tryz.prog.cellsOf 3) (List.drop 8 [c0, c1, c2, c3, c4, c5, c6, c7, c8, c9, c10])) = some y8 := g8
    rw [cells3] at h8
    obtain ⟨x8, e8, _, _⟩ := DataW.trod_int Tryz.underlying3 h8
    have q8 : c8 = Value.int .i64 x8 := (List.cons.inj e8).1
    obtain ⟨y9, g9⟩ := some_of (hf 9 _ rfl) hyl (by decide : 9 < 11)
    have h9 : DataW.trod enc Tryz.prog w base spare held n 3 (List.take (Tryz.prog.cellsOf 3) (List.drop 9 [c0, c1, c2, c3, c4, c5, c6, c7, c8, c9, c10])) = some y9 := g9
    rw [cells3] at h9
    obtain ⟨x9, e9, _, _⟩ := DataW.trod_int Tryz.underlying3 h9
    have q9 : c9 = Value.int .i64 x9 := (List.cons.inj e9).1
    obtain ⟨y10, g10⟩ := some_of (hf 10 _ rfl) hyl (by decide : 10 < 11)
    have h10 : DataW.trod enc Tryz.prog w base spare held n 3 (List.take (Tryz.prog.cellsOf 3) (List.drop 10 [c0, c1, c2, c3, c4, c5, c6, c7, c8, c9, c10])) = some y10 := g10
    rw [cells3] at h10
    obtain ⟨x10, e10, _, _⟩ := DataW.trod_int Tryz.underlying3 h10
    have q10 : c10 = Value.int .i64 x10 := (List.cons.inj e10).1
    subst q0 q1 q2 q3 q4 q5 q6 q7 q8 q9 q10
    refine ⟨⟨x0, x1, x2, x3, x4, x5, x6, x7, x8, x9, x10⟩, rfl, ?_, ?_, ?_⟩
    · have := bounds_u32 w2
      exact (show 0 ≤ x2 ∧ x2 < 4294967296 by omega)
    · simpa [Lit.wf] using w5
    · simpa [Lit.wf] using w6
theorem open_event {r : Reach} {b0 : Nat} {v : Value} {d : DataW H} {ps : List MemPlace} (hv : Value.okWide Tryz.prog w r b0 25 v) (h : DataW.Trod enc Tryz.prog w base spare held 25 v d ps) :
    ∃ e : E, v = e.v ∧ OkEn e := by
  simp only [Value.okWide, Tryz.underlying25] at hv
  obtain ⟨cs, rfl, _, _⟩ := hv
  obtain ⟨fuel, hf⟩ := h
  obtain ⟨e, he, ho⟩ := cells_event hf
  have h2 : cs.toList = e.cells.toList := he
  refine ⟨e, ?_, ho⟩
  rw [Array.toList_inj.1 h2]

theorem cells_command {fuel : Nat} {cs : List Value} {x : DataW H × List MemPlace} (h : DataW.trod enc Tryz.prog w base spare held fuel 27 cs = some x) :
    ∃ c : C, cs = c.cells.toList ∧ OkCn c := by
  obtain ⟨ys, n, _, _, hl, hyl, hf⟩ := DataW.trod_struct Tryz.underlying27 h
  rw [cells27] at hl
  match cs, hl with
  | [c0, c1, c2, c3, c4, c5, c6, c7, c8, c9, c10, c11, c12, c13], _ =>
    obtain ⟨y0, g0⟩ := some_of (hf 0 _ rfl) hyl (by decide : 0 < 4)
    have h0 : DataW.trod enc Tryz.prog w base spare held n 4 (List.take (Tryz.prog.cellsOf 4) (List.drop 0 [c0, c1, c2, c3, c4, c5, c6, c7, c8, c9, c10, c11, c12, c13])) = some y0 := g0
    rw [cells4] at h0
    obtain ⟨y1, g1⟩ := some_of (hf 1 _ rfl) hyl (by decide : 1 < 4)
    have h1 : DataW.trod enc Tryz.prog w base spare held n 22 (List.take (Tryz.prog.cellsOf 22) (List.drop 1 [c0, c1, c2, c3, c4, c5, c6, c7, c8, c9, c10, c11, c12, c13])) = some y1 := g1
    rw [cells22] at h1
    obtain ⟨y2, g2⟩ := some_of (hf 2 _ rfl) hyl (by decide : 2 < 4)
    have h2 : DataW.trod enc Tryz.prog w base spare held n 25 (List.take (Tryz.prog.cellsOf 25) (List.drop 2 [c0, c1, c2, c3, c4, c5, c6, c7, c8, c9, c10, c11, c12, c13])) = some y2 := g2
    rw [cells25] at h2
    obtain ⟨y3, g3⟩ := some_of (hf 3 _ rfl) hyl (by decide : 3 < 4)
    have h3 : DataW.trod enc Tryz.prog w base spare held n 22 (List.take (Tryz.prog.cellsOf 22) (List.drop 13 [c0, c1, c2, c3, c4, c5, c6, c7, c8, c9, c10, c11, c12, c13])) = some y3 := g3
    rw [cells22] at h3
    obtain ⟨x0, e0, _⟩ := DataW.trod_bool Tryz.underlying4 h0
    have q0 : c0 = Value.bool x0 := (List.cons.inj e0).1
    obtain ⟨x1, e1, _, w1⟩ := DataW.trod_int Tryz.underlying22 h1
    have q1 : c1 = Value.int .u32 x1 := (List.cons.inj e1).1
    obtain ⟨x3, e3, _, w3⟩ := DataW.trod_int Tryz.underlying22 h3
    have q13 : c13 = Value.int .u32 x3 := (List.cons.inj e3).1
    obtain ⟨e, he, ho⟩ := cells_event h2
    have hc : [c2, c3, c4, c5, c6, c7, c8, c9, c10, c11, c12] = e.cells.toList := he
    simp only [List.cons.injEq, and_true] at hc
    obtain ⟨rfl, rfl, rfl, rfl, rfl, rfl, rfl, rfl, rfl, rfl, rfl⟩ := hc
    subst q0 q1 q13
    have b1 := bounds_u32 w1
    have b3 := bounds_u32 w3
    exact ⟨⟨x0, x1, e, x3⟩, rfl, ho, (show 0 ≤ x1 ∧ x1 < 4294967296 by omega), (show 0 ≤ x3 ∧ x3 < 4294967296 by omega)⟩
theorem open_command {r : Reach} {b0 : Nat} {v : Value} {d : DataW H} {ps : List MemPlace} (hv : Value.okWide Tryz.prog w r b0 27 v) (h : DataW.Trod enc Tryz.prog w base spare held 27 v d ps) :
    ∃ c : C, v = c.v ∧ OkCn c := by
  simp only [Value.okWide, Tryz.underlying27] at hv
  obtain ⟨cs, rfl, _, _⟩ := hv
  obtain ⟨fuel, hf⟩ := h
  obtain ⟨c, he, ho⟩ := cells_command hf
  have h2 : cs.toList = c.cells.toList := he
  refine ⟨c, ?_, ho⟩
  rw [Array.toList_inj.1 h2]
end

/-- The rows' listed tables. -/
abbrev laids : List (String × DataW Unit) := [("math/bits.deBruijn32tab", Rows.laid_math_bits_deBruijn32tab), ("math/bits.deBruijn64tab", Rows.laid_math_bits_deBruijn64tab), ("internal/strconv.uint64pow10", Rows.laid_internal_strconv_uint64pow10), ("unicode/utf8.acceptRanges", Rows.laid_unicode_utf8_acceptRanges), ("strconv.ErrRange", Rows.laid_strconv_ErrRange), ("strconv.ErrSyntax", Rows.laid_strconv_ErrSyntax), ("annuity/console.forms", Rows.laid_annuity_console_forms), ("unicode/utf8.first", Rows.laid_unicode_utf8_first)]
theorem global2 : Tryz.prog.globalNamed "internal/strconv.uint64pow10" = some 2 := by kernel_rfl
theorem gtype2 : (Tryz.prog.globals[2]?).map (·.type) = some 144 := by kernel_rfl
theorem cells144 : Tryz.prog.cellsOf 144 = 20 := by kernel_rfl
theorem cells46 : Tryz.prog.cellsOf 46 = 1 := by kernel_rfl
theorem global5 : Tryz.prog.globalNamed "math/bits.deBruijn64tab" = some 5 := by kernel_rfl
theorem gtype5 : (Tryz.prog.globals[5]?).map (·.type) = some 189 := by kernel_rfl
theorem cells189 : Tryz.prog.cellsOf 189 = 64 := by kernel_rfl
theorem cells5 : Tryz.prog.cellsOf 5 = 1 := by kernel_rfl
theorem global6 : Tryz.prog.globalNamed "strconv.ErrSyntax" = some 6 := by kernel_rfl
theorem gtype6 : (Tryz.prog.globals[6]?).map (·.type) = some 81 := by kernel_rfl
theorem global7 : Tryz.prog.globalNamed "strconv.ErrRange" = some 7 := by kernel_rfl
theorem gtype7 : (Tryz.prog.globals[7]?).map (·.type) = some 81 := by kernel_rfl
theorem global0 : Tryz.prog.globalNamed "annuity/console.forms" = some 0 := by kernel_rfl
theorem gtype0 : (Tryz.prog.globals[0]?).map (·.type) = some 49 := by kernel_rfl
theorem cells49 : Tryz.prog.cellsOf 49 = 44 := by kernel_rfl
theorem cells48 : Tryz.prog.cellsOf 48 = 4 := by kernel_rfl
theorem cells9 : Tryz.prog.cellsOf 9 = 1 := by kernel_rfl
theorem cells201 : Tryz.prog.cellsOf 201 = 1 := by kernel_rfl
theorem starE : "*" ++ "errors.errorString" = "*errors.errorString" := by decide
theorem row199 (u : TypeId) (h : Tryz.prog.typeName? 3 u = some "*errors.errorString") : u = 199 :=
  typeName_ptr_named (nm := "errors.errorString") (by rw [starE]; kernel_rfl) (by kernel_rfl) (by decide) u (by rw [starE]; exact h)
theorem global_at {W : World} {n : String} {d : DataW Unit} {r : List (String × DataW Unit)} {g : Nat} {t : TypeId} (hg : Tryz.prog.globalNamed n = some g) (ht : (Tryz.prog.globals[g]?).map (·.type) = some t) (h : laidMet Tryz.prog ((n, d) :: r) W) :
    ∃ (cs : Array Value) (fuel : Nat) (p : List MemPlace), W.var? Tryz.prog n = some cs ∧ DataW.trod (fun _ => ()) Tryz.prog W 0 (fun _ => true) false fuel t cs.toList = some (d, p) := by
  obtain ⟨ps, ⟨g', t', cs, fuel, p, q, hg', ht', hvar, hd, _, _⟩, _⟩ := h
  obtain rfl := Option.some.inj (hg.symm.trans hg')
  obtain rfl := Option.some.inj (ht.symm.trans ht')
  exact ⟨cs, fuel, p, hvar, hd⟩
theorem tab_of {W : World} (h : laidMet Tryz.prog laids W) : Tab W := by
  obtain ⟨cs, fuel, p, hvar, hd⟩ := global_at global2 gtype2 h.tail.tail
  unfold Vw.Tab Lib.TabIs
  rw [hvar]
  have h2 := Lib.cells_of_tab (zs := Lib.pow10Tab) Tryz.underlying144 Tryz.underlying46 cells46 cells144 hd
  obtain ⟨l⟩ := cs
  simp only at h2
  rw [h2]
theorem four_of {W : World} (h : laidMet Tryz.prog laids W) : W.cell? ⟨5, 15, none⟩ = some (.int .u8 4) := by
  obtain ⟨cs, fuel, p, hvar, hd⟩ := global_at global5 gtype5 h.tail
  have h2 := Lib.cells_of_tab (zs := [0, 1, 56, 2, 57, 49, 28, 3, 61, 58, 42, 50, 38, 29, 17, 4, 62, 47, 59, 36, 45, 43, 51, 22, 53, 39, 33, 30, 24, 18, 12, 5, 63, 55, 48, 27, 60, 41, 37, 16, 46, 35, 44, 21, 52, 32, 23, 11, 54, 26, 40, 15, 34, 20, 31, 10, 25, 14, 19, 9, 13, 8, 7, 6]) Tryz.underlying189 Tryz.underlying5 cells5 cells189 hd
  have h3 := World.var?_cell global5 hvar 15
  rw [h3]
  have h4 : cs[15]? = cs.toList[15]? := by simp
  rw [h4, h2]
  rfl
theorem sent_of {W : World} {n nm : String} {text : List UInt8} {r : List (String × DataW Unit)} {g : Nat} (hnm : nm = "*errors.errorString") (hg : Tryz.prog.globalNamed n = some g) (ht : (Tryz.prog.globals[g]?).map (·.type) = some 81) (h : laidMet Tryz.prog ((n, .iface nm (.ptr (.agg [.lit (.string text)]))) :: r) W) :
    ∃ te pe, W.cell? ⟨g, 0, none⟩ = some (.iface te pe) := by
  subst hnm
  obtain ⟨a, s, hv, _⟩ := laid_sentinel h hg ht Tryz.underlying81 row199 Tryz.underlying199 Tryz.underlying201 rfl rfl Tryz.underlying9 cells201 cells9
  exact ⟨_, _, by rw [World.var?_cell hg hv 0]; rfl⟩
/-- A form as the row lists it. -/
def fmD (f : Cn.Fm) : DataW Unit := .agg [.lit (.string f.words), .lit (.int .i64 f.kind), .lit (.int .i64 f.plan), .lit (.string f.has)]
theorem form_cells {W : World} {fuel : Nat} {cs : List Value} {p : List MemPlace} {f : Cn.Fm} (h : DataW.trod (fun _ => ()) Tryz.prog W 0 (fun _ => true) false fuel 48 cs = some (fmD f, p)) : cs = f.cells.toList := by
  obtain ⟨ys, n, _, hx, hl, hyl, hf⟩ := DataW.trod_struct Tryz.underlying48 h
  rw [cells48] at hl
  match cs, hl with
  | [c0, c1, c2, c3], _ =>
    have hy : ys.map (·.1) = [.lit (.string f.words), .lit (.int .i64 f.kind), .lit (.int .i64 f.plan), .lit (.string f.has)] := by
      have := congrArg Prod.fst hx
      unfold fmD at this
      injection this with this
      exact this.symm
    obtain ⟨y0, g0⟩ := some_of (hf 0 _ rfl) hyl (by decide : 0 < 4)
    obtain ⟨y1, g1⟩ := some_of (hf 1 _ rfl) hyl (by decide : 1 < 4)
    obtain ⟨y2, g2⟩ := some_of (hf 2 _ rfl) hyl (by decide : 2 < 4)
    obtain ⟨y3, g3⟩ := some_of (hf 3 _ rfl) hyl (by decide : 3 < 4)
    have k0 : ys[0]? = some y0 := (hf 0 _ rfl).symm.trans g0
    have k1 : ys[1]? = some y1 := (hf 1 _ rfl).symm.trans g1
    have k2 : ys[2]? = some y2 := (hf 2 _ rfl).symm.trans g2
    have k3 : ys[3]? = some y3 := (hf 3 _ rfl).symm.trans g3
    have m0 : y0.1 = .lit (.string f.words) := by have := congrArg (·[0]?) hy; simpa [k0] using this
    have m1 : y1.1 = .lit (.int .i64 f.kind) := by have := congrArg (·[1]?) hy; simpa [k1] using this
    have m2 : y2.1 = .lit (.int .i64 f.plan) := by have := congrArg (·[2]?) hy; simpa [k2] using this
    have m3 : y3.1 = .lit (.string f.has) := by have := congrArg (·[3]?) hy; simpa [k3] using this
    have h0 : DataW.trod (fun _ => ()) Tryz.prog W 0 (fun _ => true) false n 9 (List.take (Tryz.prog.cellsOf 9) (List.drop 0 [c0, c1, c2, c3])) = some y0 := g0
    have h1 : DataW.trod (fun _ => ()) Tryz.prog W 0 (fun _ => true) false n 3 (List.take (Tryz.prog.cellsOf 3) (List.drop 1 [c0, c1, c2, c3])) = some y1 := g1
    have h2 : DataW.trod (fun _ => ()) Tryz.prog W 0 (fun _ => true) false n 3 (List.take (Tryz.prog.cellsOf 3) (List.drop 2 [c0, c1, c2, c3])) = some y2 := g2
    have h3 : DataW.trod (fun _ => ()) Tryz.prog W 0 (fun _ => true) false n 9 (List.take (Tryz.prog.cellsOf 9) (List.drop 3 [c0, c1, c2, c3])) = some y3 := g3
    rw [cells9] at h0 h3
    rw [cells3] at h1 h2
    obtain ⟨x0, e0, z0, _⟩ := DataW.trod_string Tryz.underlying9 h0
    obtain ⟨x1, e1, z1, _⟩ := DataW.trod_int Tryz.underlying3 h1
    obtain ⟨x2, e2, z2, _⟩ := DataW.trod_int Tryz.underlying3 h2
    obtain ⟨x3, e3, z3, _⟩ := DataW.trod_string Tryz.underlying9 h3
    rw [z0] at m0
    rw [z1] at m1
    rw [z2] at m2
    rw [z3] at m3
    have q0 : c0 = .string x0 := (List.cons.inj e0).1
    have q1 : c1 = .int .i64 x1 := (List.cons.inj e1).1
    have q2 : c2 = .int .i64 x2 := (List.cons.inj e2).1
    have q3 : c3 = .string x3 := (List.cons.inj e3).1
    injection m0 with m0; injection m0 with m0
    injection m1 with m1; injection m1 with _ m1
    injection m2 with m2; injection m2 with _ m2
    injection m3 with m3; injection m3 with m3
    have sb : ∀ (x : ByteArray) (l : List UInt8), x.data.toList = l → x = str l := fun x l h => by
      subst h
      cases x
      rfl
    rw [q0, q1, q2, q3, sb _ _ m0, m1, m2, sb _ _ m3]
theorem forms_of {W : World} (h : laidMet Tryz.prog laids W) : ∀ (k : Nat) (f : Cn.Fm), Cn.forms[k]? = some f → ∀ (j : Nat) (v : Value), f.cells[j]? = some v → W.cell? ⟨0, k * 4 + j, none⟩ = some v := by
  obtain ⟨cs, fuel, p, hvar, hd⟩ := global_at global0 gtype0 h.tail.tail.tail.tail.tail.tail
  have hD : (Rows.laid_annuity_console_forms : DataW Unit) = .agg (Cn.forms.map fmD) := rfl
  rw [hD] at hd
  obtain ⟨xs, m, _, hx, hl, hxl, hi⟩ := DataW.trod_array Tryz.underlying49 hd
  have hy : xs.map (·.1) = Cn.forms.map fmD := by
    have := congrArg Prod.fst hx
    injection this with this
    exact this.symm
  intro k f hf j v hv
  have hk : k < 11 := by
    have := (List.getElem?_eq_some_iff.1 hf).1
    exact this
  have h1 := hi k hk
  rw [cells48] at h1
  have h2 : k < xs.length := by rw [hxl]; exact hk
  rw [List.getElem?_eq_getElem h2] at h1
  have h3 : (xs[k]).1 = fmD f := by
    have := congrArg (·[k]?) hy
    simpa [List.getElem?_eq_getElem h2, hf] using this
  have h4 : xs[k] = (fmD f, (xs[k]).2) := Prod.ext h3 rfl
  rw [h4] at h1
  have h5 := form_cells h1
  have hj : j < 4 := (Array.getElem?_eq_some_iff.1 hv).1
  rw [World.var?_cell global0 hvar (k * 4 + j)]
  have h6 : ((cs.toList.drop (k * 4)).take 4)[j]? = some v := by
    rw [h5, Array.getElem?_toList]
    exact hv
  rw [List.getElem?_take_of_lt hj, List.getElem?_drop] at h6
  simpa using h6
theorem shape3 : (((begin Tryz.prog (fun _ _ => 0) default).world.heap[3]?).bind Obj.row?) = some (#[.int .i64 0], 3) := by kernel_rfl
theorem types3 : Tryz.prog.cellTypes Tryz.prog.depth 3 = some [3] := by kernel_rfl
theorem mx_of {W : World} (h : W.ShapedOpen Tryz.prog) : ∃ m : Int, W.cell? ⟨3, 0, none⟩ = some (.int .i64 m) := by
  obtain ⟨cs, h1, h2, h3⟩ := h.1 3 _ _ (of_decide_eq_true (by kernel_rfl)) shape3
  obtain ⟨ts, h4, _, h5⟩ := h3 (by kernel_rfl)
  obtain rfl := Option.some.inj (types3.symm.trans h4)
  have h6 : 0 < cs.size := by rw [h2]; decide
  obtain ⟨u, h7, h8⟩ := h5 0 _ (Array.getElem?_eq_getElem h6)
  obtain rfl : 3 = u := Option.some.inj h7
  unfold Cell.ok at h8
  rw [Tryz.underlying3] at h8
  cases hc : cs[0] with
  | int k n =>
    rw [hc] at h8
    simp only at h8
    obtain ⟨rfl, _⟩ := h8
    refine ⟨n, ?_⟩
    unfold World.cell?
    rw [h1]
    simp only
    rw [Array.getElem?_eq_getElem h6, hc]
    rfl
  | _ => rw [hc] at h8; simp at h8
theorem gl_of {W : World} (hs : W.ShapedOpen Tryz.prog) (h : laidMet Tryz.prog laids W) : Cn.Gl W :=
  ⟨tab_of h, sent_of (g := 6) rfl global6 gtype6 h.tail.tail.tail.tail.tail, sent_of (g := 7) rfl global7 gtype7 h.tail.tail.tail.tail, mx_of hs, forms_of h⟩
/-- The first place behind the settled world. -/
noncomputable def low : Nat := (World.holding Tryz.prog default ⟨#[], #[], []⟩).heap.size
/-- The settled world with the tables laid. -/
noncomputable def laidWorld (os : Os) : World :=
  let w0 := World.holding Tryz.prog os ⟨#[.cells #[.string ⟨#[105, 110, 118, 97, 108, 105, 100, 32, 115, 121, 110, 116, 97, 120]⟩] 201, .cells #[.string ⟨#[118, 97, 108, 117, 101, 32, 111, 117, 116, 32, 111, 102, 32, 114, 97, 110, 103, 101]⟩] 201], #[], []⟩
  { w0 with heap := (((((((w0.heap.modify 0 fun
      | .cells _ t frozen => .cells (Cn.forms.map fun f => f.cells.toList).flatten.toArray t frozen
      | o => o).modify 2 fun
      | .cells _ t frozen => .cells #[.int .u64 1, .int .u64 10, .int .u64 100, .int .u64 1000, .int .u64 10000, .int .u64 100000, .int .u64 1000000, .int .u64 10000000, .int .u64 100000000, .int .u64 1000000000, .int .u64 10000000000, .int .u64 100000000000, .int .u64 1000000000000, .int .u64 10000000000000, .int .u64 100000000000000, .int .u64 1000000000000000, .int .u64 10000000000000000, .int .u64 100000000000000000, .int .u64 1000000000000000000, .int .u64 10000000000000000000] t frozen
      | o => o).modify 4 fun
      | .cells _ t frozen => .cells #[.int .u8 0, .int .u8 1, .int .u8 28, .int .u8 2, .int .u8 29, .int .u8 14, .int .u8 24, .int .u8 3, .int .u8 30, .int .u8 22, .int .u8 20, .int .u8 15, .int .u8 25, .int .u8 17, .int .u8 4, .int .u8 8, .int .u8 31, .int .u8 27, .int .u8 13, .int .u8 23, .int .u8 21, .int .u8 19, .int .u8 16, .int .u8 7, .int .u8 26, .int .u8 12, .int .u8 18, .int .u8 6, .int .u8 11, .int .u8 5, .int .u8 10, .int .u8 9] t frozen
      | o => o).modify 5 fun
      | .cells _ t frozen => .cells #[.int .u8 0, .int .u8 1, .int .u8 56, .int .u8 2, .int .u8 57, .int .u8 49, .int .u8 28, .int .u8 3, .int .u8 61, .int .u8 58, .int .u8 42, .int .u8 50, .int .u8 38, .int .u8 29, .int .u8 17, .int .u8 4, .int .u8 62, .int .u8 47, .int .u8 59, .int .u8 36, .int .u8 45, .int .u8 43, .int .u8 51, .int .u8 22, .int .u8 53, .int .u8 39, .int .u8 33, .int .u8 30, .int .u8 24, .int .u8 18, .int .u8 12, .int .u8 5, .int .u8 63, .int .u8 55, .int .u8 48, .int .u8 27, .int .u8 60, .int .u8 41, .int .u8 37, .int .u8 16, .int .u8 46, .int .u8 35, .int .u8 44, .int .u8 21, .int .u8 52, .int .u8 32, .int .u8 23, .int .u8 11, .int .u8 54, .int .u8 26, .int .u8 40, .int .u8 15, .int .u8 34, .int .u8 20, .int .u8 31, .int .u8 10, .int .u8 25, .int .u8 14, .int .u8 19, .int .u8 9, .int .u8 13, .int .u8 8, .int .u8 7, .int .u8 6] t frozen
      | o => o).modify 6 fun
      | .cells _ t frozen => .cells #[.iface 199 (.pointer (some ⟨low, 0, none⟩))] t frozen
      | o => o).modify 7 fun
      | .cells _ t frozen => .cells #[.iface 199 (.pointer (some ⟨low + 1, 0, none⟩))] t frozen
      | o => o).modify 8 fun
      | .cells _ t frozen => .cells (Go.Pinned.utf8FirstZ.map fun (z : Nat) => Value.int .u8 (z : Int)).toArray t frozen
      | o => o).modify 9 fun
      | .cells _ t frozen => .cells #[.int .u8 128, .int .u8 191, .int .u8 160, .int .u8 191, .int .u8 128, .int .u8 159, .int .u8 144, .int .u8 191, .int .u8 128, .int .u8 143, .int .u8 0, .int .u8 0, .int .u8 0, .int .u8 0, .int .u8 0, .int .u8 0, .int .u8 0, .int .u8 0, .int .u8 0, .int .u8 0, .int .u8 0, .int .u8 0, .int .u8 0, .int .u8 0, .int .u8 0, .int .u8 0, .int .u8 0, .int .u8 0, .int .u8 0, .int .u8 0, .int .u8 0, .int .u8 0] t frozen
      | o => o }
theorem laid_met (os : Os) (args : Array Value) : laidMet Tryz.prog laids ((laidWorld os).forCall (fun _ _ => 0) ⟨#[], args, []⟩).memory :=
  laidMet_of_run' 80 (by kernel_rfl) (by kernel_rfl)
theorem readsV (t : TypeId) (h : t = 27 ∨ t = 9 ∨ t = 5 ∨ t = 22) : Tryz.prog.readableRec t = true ∧ t < Tryz.prog.types.size := by
  rcases h with rfl | rfl | rfl | rfl <;> exact ⟨by kernel_rfl, of_decide_eq_true (by kernel_rfl)⟩
section
variable {H : Type} {enc : TypeId × Value → H}
/-- The row of a law whose listed variables are laid; its walk is told the world's shape too. -/
theorem handed_at {os : Os} {f : FuncId} {fn : Func} {s : ChangeSpec} {conds : List PathCond} {again : Bool} (started : os.Started) (noInit : Tryz.checked.prog.inits.idxOf? f = none) (hfn : Tryz.checked.prog.funcs[f]? = some fn)
    (witness : ∃ (w : World) (tape : Tape) (i : Input), w.os = os ∧ (w.forCall tape i).Shaped Tryz.checked.prog ∧ i.vars = [] ∧ Input.okWide Tryz.checked.prog (w.forCall tape i) .any w.heap.size f i ∧
      ((s.pre enc Tryz.checked.prog fn conds false (w.forCall tape i).memory i.args ∧ laidMet Tryz.prog laids (w.forCall tape i).memory) ∧ sizedMet enc Tryz.checked.prog fn (OpenSpec.ofChange s) false (w.forCall tape i).memory i.args) ∧ Assume.holds {} Tryz.checked.prog (lone (Frame.enter Tryz.checked.prog f i.args .normal) [] (w.forCall tape i)))
    (walk : ∀ (W : World) (base : Nat) (args : Array Value) (ds gs : List (DataW H)) (before : List MemPlace), Cn.Gl W → laidMet Tryz.prog laids W → (∀ (j : Nat) t v, fn.params[j]? = some t → args[j]? = some v → Value.okWide Tryz.checked.prog W .any base t v) →
      DataW.Whole enc Tryz.checked.prog fn.params.toList s.vars false W args.toList ds gs before →
      Calls Tryz.checked.prog f args W fun e W' => ∃ v, e = .returned v ∧ s.post enc Tryz.checked.prog fn false true false again W args v W') :
    ReturnsInHanded {} Tryz.checked os f .any (fun w args => (s.pre enc Tryz.checked.prog fn conds false w args ∧ laidMet Tryz.prog laids w) ∧ sizedMet enc Tryz.checked.prog fn (OpenSpec.ofChange s) false w args) (s.post enc Tryz.checked.prog fn false true false again) := by
  refine returnsInHanded_of_calls own started noInit witness fun w tape i _ hsh _ hok hpre _ => ?_
  obtain ⟨_, _, _, fn1, h1, _, _, _, _, hval⟩ := hok
  obtain rfl := Option.some.inj (h1.symm.trans hfn)
  obtain ⟨⟨⟨ds, gs, before, hw, _⟩, hx⟩, _⟩ := hpre
  have hL : laidMet Tryz.prog laids (w.forCall tape i) := laidMet.of_heap (w := (w.forCall tape i).memory) (by rfl) hx
  exact (walk (w.forCall tape i) w.heap.size i.args ds gs before (gl_of hsh hL) hL hval (DataW.Whole.of_heap (w' := w.forCall tape i) (by rfl) hw)).mono fun e W' ⟨v, he, hp⟩ => by
    subst he
    exact ChangeSpec.post_blind hp
end
end Go.Proofs.YtkcjgmicoifhcaaGreatDoor
