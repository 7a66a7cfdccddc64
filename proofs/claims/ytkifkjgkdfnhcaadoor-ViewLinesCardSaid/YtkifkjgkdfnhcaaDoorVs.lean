/- A state opened out of its reading. (Printed by gen_vs.py.) -/
import Derived.Test.YtkifkjgkdfnhcaaDoorVr
import Derived.Test.YtkifkjgkdfnhcaaDoorV32
namespace Go.Proofs.YtkifkjgkdfnhcaaDoor
open Go.ChangeShapes Go.WideShapes Go.Deep Go.RowKit
open Vw
set_option maxRecDepth 20000
theorem cells26 : Tryd.prog.cellsOf 26 = 6 := by kernel_rfl
theorem cells24 : Tryd.prog.cellsOf 24 = 1 := by kernel_rfl
theorem cells36 : Tryd.prog.cellsOf 36 = 1 := by kernel_rfl
theorem cells37 : Tryd.prog.cellsOf 37 = 1 := by kernel_rfl
theorem cells39 : Tryd.prog.cellsOf 39 = 4 := by kernel_rfl
theorem cells41 : Tryd.prog.cellsOf 41 = 13 := by kernel_rfl
theorem list_of {α : Type} (n : Nat) (P : Nat → α → Prop) (h : ∀ i, i < n → ∃ x, P i x) : ∃ xs : List α, xs.length = n ∧ ∀ i (hi : i < xs.length), P i xs[i] := by
  induction n with
  | zero => exact ⟨[], rfl, fun i hi => absurd hi (by simp)⟩
  | succ n ih =>
    obtain ⟨xs, hl, hx⟩ := ih fun i hi => h i (by omega)
    obtain ⟨y, hy⟩ := h n (by omega)
    refine ⟨xs ++ [y], by simp [hl], fun i hi => ?_⟩
    by_cases hlt : i < xs.length
    · rw [List.getElem_append_left hlt]; exact hx i hlt
    · have e : i = n := by simp at hi; omega
      subst e
      rw [List.getElem_append_right (by omega)]
      simpa [hl] using hy
section
variable {H : Type} {enc : TypeId × Value → H} {w : World} {base : Nat} {spare : Nat → Bool} {held : Bool}
theorem open_rows {t e : TypeId} {sz : Nat} {α : Type} (cells : α → Array Value) (good : α → Prop) (ht : Tryd.prog.underlying t = some (.slice e)) (hC : Tryd.prog.cellsOf e = sz) (hpos : 0 < sz)
    (hel : ∀ (fuel : Nat) (cs : List Value) (x : DataW H × List MemPlace), DataW.trod enc Tryd.prog w base spare held fuel e cs = some x → ∃ a : α, cs = (cells a).toList ∧ good a)
    {fuel : Nat} {cs : List Value} {x : DataW H × List MemPlace} (h : DataW.trod enc Tryd.prog w base spare held fuel t cs = some x) :
    ∃ (p : Option Addr) (cap : Nat) (L : List α), cs = [.slice p L.length cap] ∧ Sl w p sz (L.map cells) cap ∧ ∀ a ∈ L, good a := by
  rcases open_slice ht h with ⟨rfl, _⟩ | ⟨a, len, cap, m, n, D, Pl, rfl, _, hl, _, hmm, _, hi⟩
  · exact ⟨none, 0, [], rfl, ⟨Nat.le_refl _, .inl rfl⟩, fun a ha => by simp at ha⟩
  · have hlm : len ≤ m := by rw [hmm]; split; exact hl; exact Nat.le_refl _
    obtain ⟨L, hL, hx⟩ := list_of (α := α) len (fun i y => good y ∧ ∀ j, j < sz → w.cell? ((a.add (i * sz)).add j) = (cells y)[j]?) (by
      intro i hil
      obtain ⟨cs', hc, ht'⟩ := hi i (by omega)
      rw [hC] at hc
      obtain ⟨y, rfl, hg⟩ := hel _ _ _ ht'
      obtain ⟨_, hlen, hat⟩ := World.cells?_some hc
      exact ⟨y, hg, fun j hj => (hat j hj).trans Array.getElem?_toList⟩)
    refine ⟨some a, cap, L, by rw [hL], ⟨by rw [List.length_map, hL]; exact hl, ?_⟩, fun y hy => by
      obtain ⟨i, hi', rfl⟩ := List.mem_iff_getElem.1 hy
      exact (hx i hi').1⟩
    rcases Nat.eq_zero_or_pos len with h0 | h0
    · exact .inl (by rw [List.map_eq_nil_iff]; exact List.eq_nil_of_length_eq_zero (hL.trans h0))
    · obtain ⟨cs', hc, ht'⟩ := hi 0 (by omega)
      rw [hC] at hc
      obtain ⟨_, hlen, hat⟩ := World.cells?_some hc
      have h00 := hat 0 hpos
      rw [List.getElem?_eq_getElem (by omega)] at h00
      obtain ⟨b, off, spot⟩ := a
      simp [Addr.add] at h00
      have hsp : spot = none ∧ b < w.heap.size := by
        unfold World.cell? at h00
        split at h00
        · rename_i c _ _ hb
          refine ⟨?_, (Array.getElem?_eq_some_iff.1 hb).1⟩
          cases spot with
          | none => rfl
          | some s => simp at h00
        · cases h00
      obtain ⟨rfl, hbl⟩ := hsp
      refine .inr ⟨b, off, rfl, hbl, fun i r hr j hj => ?_⟩
      rw [List.getElem?_map] at hr
      obtain ⟨y, hy, rfl⟩ := Option.map_eq_some_iff.1 hr
      obtain ⟨hlt, rfl⟩ := List.getElem?_eq_some_iff.1 hy
      rw [← (hx i hlt).2 j hj]
      congr 1
      rw [Go.Deep.add_add]
      unfold Addr.add
      split
      · simp only [Addr.mk.injEq, true_and, and_true]; omega
      · simp only [Addr.mk.injEq, true_and, and_true]; omega
theorem cells_parts {fuel : Nat} {cs : List Value} {x : DataW H × List MemPlace} (h : DataW.trod enc Tryd.prog w base spare held fuel 39 cs = some x) :
    ∃ u0 u1 u2 u3 : Int, cs = [.int .i64 u0, .int .i64 u1, .int .i64 u2, .int .i64 u3] := by
  obtain ⟨ys, n, _, _, hl, hyl, hf⟩ := DataW.trod_struct Tryd.underlying39 h
  rw [cells39] at hl
  match cs, hl with
  | [c0, c1, c2, c3], _ =>
    obtain ⟨y0, g0⟩ := some_of (hf 0 _ rfl) hyl (by decide : 0 < 4)
    have h0 : DataW.trod enc Tryd.prog w base spare held n 2 (List.take (Tryd.prog.cellsOf 2) (List.drop 0 [c0, c1, c2, c3])) = some y0 := g0
    rw [cells2] at h0
    obtain ⟨x0, e0, _, w0⟩ := DataW.trod_int Tryd.underlying2 h0
    have q0 : c0 = Value.int .i64 x0 := (List.cons.inj e0).1
    obtain ⟨y1, g1⟩ := some_of (hf 1 _ rfl) hyl (by decide : 1 < 4)
    have h1 : DataW.trod enc Tryd.prog w base spare held n 2 (List.take (Tryd.prog.cellsOf 2) (List.drop 1 [c0, c1, c2, c3])) = some y1 := g1
    rw [cells2] at h1
    obtain ⟨x1, e1, _, w1⟩ := DataW.trod_int Tryd.underlying2 h1
    have q1 : c1 = Value.int .i64 x1 := (List.cons.inj e1).1
    obtain ⟨y2, g2⟩ := some_of (hf 2 _ rfl) hyl (by decide : 2 < 4)
    have h2 : DataW.trod enc Tryd.prog w base spare held n 2 (List.take (Tryd.prog.cellsOf 2) (List.drop 2 [c0, c1, c2, c3])) = some y2 := g2
    rw [cells2] at h2
    obtain ⟨x2, e2, _, w2⟩ := DataW.trod_int Tryd.underlying2 h2
    have q2 : c2 = Value.int .i64 x2 := (List.cons.inj e2).1
    obtain ⟨y3, g3⟩ := some_of (hf 3 _ rfl) hyl (by decide : 3 < 4)
    have h3 : DataW.trod enc Tryd.prog w base spare held n 2 (List.take (Tryd.prog.cellsOf 2) (List.drop 3 [c0, c1, c2, c3])) = some y3 := g3
    rw [cells2] at h3
    obtain ⟨x3, e3, _, w3⟩ := DataW.trod_int Tryd.underlying2 h3
    have q3 : c3 = Value.int .i64 x3 := (List.cons.inj e3).1
    subst q0 q1 q2 q3
    exact ⟨x0, x1, x2, x3, rfl⟩
theorem cells_bill {fuel : Nat} {cs : List Value} {x : DataW H × List MemPlace} (h : DataW.trod enc Tryd.prog w base spare held fuel 26 cs = some x) :
    ∃ b : Bl, cs = b.cells.toList ∧ OkBl b ∧ InBl w b := by
  obtain ⟨ys, n, _, _, hl, hyl, hf⟩ := DataW.trod_struct Tryd.underlying26 h
  rw [cells26] at hl
  match cs, hl with
  | [c0, c1, c2, c3, c4, c5], _ =>
    obtain ⟨y0, g0⟩ := some_of (hf 0 _ rfl) hyl (by decide : 0 < 6)
    have h0 : DataW.trod enc Tryd.prog w base spare held n 3 (List.take (Tryd.prog.cellsOf 3) (List.drop 0 [c0, c1, c2, c3, c4, c5])) = some y0 := g0
    rw [cells3] at h0
    obtain ⟨x0, e0, _, w0⟩ := DataW.trod_int Tryd.underlying3 h0
    have q0 : c0 = Value.int .i64 x0 := (List.cons.inj e0).1
    obtain ⟨y1, g1⟩ := some_of (hf 1 _ rfl) hyl (by decide : 1 < 6)
    have h1 : DataW.trod enc Tryd.prog w base spare held n 2 (List.take (Tryd.prog.cellsOf 2) (List.drop 1 [c0, c1, c2, c3, c4, c5])) = some y1 := g1
    rw [cells2] at h1
    obtain ⟨x1, e1, _, w1⟩ := DataW.trod_int Tryd.underlying2 h1
    have q1 : c1 = Value.int .i64 x1 := (List.cons.inj e1).1
    obtain ⟨y2, g2⟩ := some_of (hf 2 _ rfl) hyl (by decide : 2 < 6)
    have h2 : DataW.trod enc Tryd.prog w base spare held n 2 (List.take (Tryd.prog.cellsOf 2) (List.drop 2 [c0, c1, c2, c3, c4, c5])) = some y2 := g2
    rw [cells2] at h2
    obtain ⟨x2, e2, _, w2⟩ := DataW.trod_int Tryd.underlying2 h2
    have q2 : c2 = Value.int .i64 x2 := (List.cons.inj e2).1
    obtain ⟨y3, g3⟩ := some_of (hf 3 _ rfl) hyl (by decide : 3 < 6)
    have h3 : DataW.trod enc Tryd.prog w base spare held n 3 (List.take (Tryd.prog.cellsOf 3) (List.drop 3 [c0, c1, c2, c3, c4, c5])) = some y3 := g3
    rw [cells3] at h3
    obtain ⟨x3, e3, _, w3⟩ := DataW.trod_int Tryd.underlying3 h3
    have q3 : c3 = Value.int .i64 x3 := (List.cons.inj e3).1
    obtain ⟨y4, g4⟩ := some_of (hf 4 _ rfl) hyl (by decide : 4 < 6)
    have h4 : DataW.trod enc Tryd.prog w base spare held n 3 (List.take (Tryd.prog.cellsOf 3) (List.drop 4 [c0, c1, c2, c3, c4, c5])) = some y4 := g4
    rw [cells3] at h4
    obtain ⟨x4, e4, _, w4⟩ := DataW.trod_int Tryd.underlying3 h4
    have q4 : c4 = Value.int .i64 x4 := (List.cons.inj e4).1
    obtain ⟨y5, g5⟩ := some_of (hf 5 _ rfl) hyl (by decide : 5 < 6)
    have h5 : DataW.trod enc Tryd.prog w base spare held n 24 (List.take (Tryd.prog.cellsOf 24) (List.drop 5 [c0, c1, c2, c3, c4, c5])) = some y5 := g5
    rw [cells24] at h5
    obtain ⟨p5, a5, L5, e5, s5, _⟩ := open_rows (t := 24) (e := 3) (α := Int) (fun x => #[.int .i64 x]) (fun _ => True) Tryd.underlying24 cells3 (by decide) (fun fuel cs x hx => by
      obtain ⟨p, e0, _, _⟩ := DataW.trod_int Tryd.underlying3 hx
      exact ⟨p, e0, trivial⟩) h5
    have q5 : c5 = Value.slice p5 L5.length a5 := (List.cons.inj e5).1
    subst q0 q1 q2 q3 q4 q5
    exact ⟨⟨x0, x1, x2, x3, x4, p5, L5.length, a5⟩, rfl, ⟨bounds_i64 w0, bounds_i64 w1, bounds_i64 w2⟩, ⟨L5.map fun x => #[.int .i64 x], List.length_map _, s5, fun r hr => by
      obtain ⟨l, _, rfl⟩ := List.mem_map.1 hr
      rfl, fun r hr u hu => by
      obtain ⟨l, _, rfl⟩ := List.mem_map.1 hr
      simp at hu
      subst hu
      rfl⟩⟩
theorem cells_state {fuel : Nat} {cs : List Value} {x : DataW H × List MemPlace} (h : DataW.trod enc Tryd.prog w base spare held fuel 41 cs = some x) :
    ∃ s : St, cs = s.cells.toList ∧ StIn w s ∧ (∀ l ∈ s.loans, OkLn l) ∧ (∀ b ∈ s.bills, OkBl b ∧ InBl w b) ∧ -9223372036854775808 ≤ s.ahead ∧ s.ahead ≤ 9223372036854775807 := by
  obtain ⟨ys, n, _, _, hl, hyl, hf⟩ := DataW.trod_struct Tryd.underlying41 h
  rw [cells41] at hl
  match cs, hl with
  | [c0, c1, c2, c3, c4, c5, c6, c7, c8, c9, c10, c11, c12], _ =>
    obtain ⟨y0, g0⟩ := some_of (hf 0 _ rfl) hyl (by decide : 0 < 10)
    have h0 : DataW.trod enc Tryd.prog w base spare held n 3 (List.take (Tryd.prog.cellsOf 3) (List.drop 0 [c0, c1, c2, c3, c4, c5, c6, c7, c8, c9, c10, c11, c12])) = some y0 := g0
    rw [cells3] at h0
    obtain ⟨x0, e0, _, w0⟩ := DataW.trod_int Tryd.underlying3 h0
    have q0 : c0 = Value.int .i64 x0 := (List.cons.inj e0).1
    obtain ⟨y1, g1⟩ := some_of (hf 1 _ rfl) hyl (by decide : 1 < 10)
    have h1 : DataW.trod enc Tryd.prog w base spare held n 36 (List.take (Tryd.prog.cellsOf 36) (List.drop 1 [c0, c1, c2, c3, c4, c5, c6, c7, c8, c9, c10, c11, c12])) = some y1 := g1
    rw [cells36] at h1
    obtain ⟨p1, a1, L1, e1, s1, o1⟩ := open_rows (t := 36) (e := 23) Ln.cells OkLn Tryd.underlying36 cells23 (by decide) (fun fuel cs x hx => cells_loan hx) h1
    have q1 : c1 = Value.slice p1 L1.length a1 := (List.cons.inj e1).1
    obtain ⟨y2, g2⟩ := some_of (hf 2 _ rfl) hyl (by decide : 2 < 10)
    have h2 : DataW.trod enc Tryd.prog w base spare held n 3 (List.take (Tryd.prog.cellsOf 3) (List.drop 2 [c0, c1, c2, c3, c4, c5, c6, c7, c8, c9, c10, c11, c12])) = some y2 := g2
    rw [cells3] at h2
    obtain ⟨x2, e2, _, w2⟩ := DataW.trod_int Tryd.underlying3 h2
    have q2 : c2 = Value.int .i64 x2 := (List.cons.inj e2).1
    obtain ⟨y3, g3⟩ := some_of (hf 3 _ rfl) hyl (by decide : 3 < 10)
    have h3 : DataW.trod enc Tryd.prog w base spare held n 3 (List.take (Tryd.prog.cellsOf 3) (List.drop 3 [c0, c1, c2, c3, c4, c5, c6, c7, c8, c9, c10, c11, c12])) = some y3 := g3
    rw [cells3] at h3
    obtain ⟨x3, e3, _, w3⟩ := DataW.trod_int Tryd.underlying3 h3
    have q3 : c3 = Value.int .i64 x3 := (List.cons.inj e3).1
    obtain ⟨y4, g4⟩ := some_of (hf 4 _ rfl) hyl (by decide : 4 < 10)
    have h4 : DataW.trod enc Tryd.prog w base spare held n 2 (List.take (Tryd.prog.cellsOf 2) (List.drop 4 [c0, c1, c2, c3, c4, c5, c6, c7, c8, c9, c10, c11, c12])) = some y4 := g4
    rw [cells2] at h4
    obtain ⟨x4, e4, _, w4⟩ := DataW.trod_int Tryd.underlying2 h4
    have q4 : c4 = Value.int .i64 x4 := (List.cons.inj e4).1
    obtain ⟨y5, g5⟩ := some_of (hf 5 _ rfl) hyl (by decide : 5 < 10)
    have h5 : DataW.trod enc Tryd.prog w base spare held n 3 (List.take (Tryd.prog.cellsOf 3) (List.drop 5 [c0, c1, c2, c3, c4, c5, c6, c7, c8, c9, c10, c11, c12])) = some y5 := g5
    rw [cells3] at h5
    obtain ⟨x5, e5, _, w5⟩ := DataW.trod_int Tryd.underlying3 h5
    have q5 : c5 = Value.int .i64 x5 := (List.cons.inj e5).1
    obtain ⟨y6, g6⟩ := some_of (hf 6 _ rfl) hyl (by decide : 6 < 10)
    have h6 : DataW.trod enc Tryd.prog w base spare held n 37 (List.take (Tryd.prog.cellsOf 37) (List.drop 6 [c0, c1, c2, c3, c4, c5, c6, c7, c8, c9, c10, c11, c12])) = some y6 := g6
    rw [cells37] at h6
    obtain ⟨p6, a6, L6, e6, s6, o6⟩ := open_rows (t := 37) (e := 26) Bl.cells (fun b => OkBl b ∧ InBl w b) Tryd.underlying37 cells26 (by decide) (fun fuel cs x hx => cells_bill hx) h6
    have q6 : c6 = Value.slice p6 L6.length a6 := (List.cons.inj e6).1
    obtain ⟨y7, g7⟩ := some_of (hf 7 _ rfl) hyl (by decide : 7 < 10)
    have h7 : DataW.trod enc Tryd.prog w base spare held n 2 (List.take (Tryd.prog.cellsOf 2) (List.drop 7 [c0, c1, c2, c3, c4, c5, c6, c7, c8, c9, c10, c11, c12])) = some y7 := g7
    rw [cells2] at h7
    obtain ⟨x7, e7, _, w7⟩ := DataW.trod_int Tryd.underlying2 h7
    have q7 : c7 = Value.int .i64 x7 := (List.cons.inj e7).1
    obtain ⟨y12, g12⟩ := some_of (hf 9 _ rfl) hyl (by decide : 9 < 10)
    have h12 : DataW.trod enc Tryd.prog w base spare held n 2 (List.take (Tryd.prog.cellsOf 2) (List.drop 12 [c0, c1, c2, c3, c4, c5, c6, c7, c8, c9, c10, c11, c12])) = some y12 := g12
    rw [cells2] at h12
    obtain ⟨x12, e12, _, w12⟩ := DataW.trod_int Tryd.underlying2 h12
    have q12 : c12 = Value.int .i64 x12 := (List.cons.inj e12).1
    obtain ⟨y8, g8⟩ := some_of (hf 8 _ rfl) hyl (by decide : 8 < 10)
    have h8 : DataW.trod enc Tryd.prog w base spare held n 39 (List.take (Tryd.prog.cellsOf 39) (List.drop 8 [c0, c1, c2, c3, c4, c5, c6, c7, c8, c9, c10, c11, c12])) = some y8 := g8
    rw [cells39] at h8
    obtain ⟨u0, u1, u2, u3, e8⟩ := cells_parts h8
    have q8 : c8 = Value.int .i64 u0 := (List.cons.inj e8).1
    have q9 : c9 = Value.int .i64 u1 := (List.cons.inj (List.cons.inj e8).2).1
    have q10 : c10 = Value.int .i64 u2 := (List.cons.inj (List.cons.inj (List.cons.inj e8).2).2).1
    have q11 : c11 = Value.int .i64 u3 := (List.cons.inj (List.cons.inj (List.cons.inj (List.cons.inj e8).2).2).2).1
    subst q0 q1 q2 q3 q4 q5 q6 q7 q8 q9 q10 q11 q12
    exact ⟨⟨x0, L1, p1, a1, x2, x3, x4, x5, L6, p6, a6, x7, u0, u1, u2, u3, x12⟩, rfl, ⟨s1, s6⟩, o1, o6, bounds_i64 w7⟩
theorem open_state {r : Reach} {b0 : Nat} {v : Value} {d : DataW H} {ps : List MemPlace} (hv : Value.okWide Tryd.prog w r b0 41 v) (h : DataW.Trod enc Tryd.prog w base spare held 41 v d ps) :
    ∃ s : St, v = s.v ∧ StIn w s ∧ (∀ l ∈ s.loans, OkLn l) ∧ (∀ b ∈ s.bills, OkBl b ∧ InBl w b) ∧ -9223372036854775808 ≤ s.ahead ∧ s.ahead ≤ 9223372036854775807 := by
  simp only [Value.okWide, Tryd.underlying41] at hv
  obtain ⟨cs, rfl, _, _⟩ := hv
  obtain ⟨fuel, hf⟩ := h
  obtain ⟨s, he, ho⟩ := cells_state hf
  have h2 : cs.toList = s.cells.toList := he
  refine ⟨s, ?_, ho⟩
  rw [Array.toList_inj.1 h2]
end
end Go.Proofs.YtkifkjgkdfnhcaaDoor
