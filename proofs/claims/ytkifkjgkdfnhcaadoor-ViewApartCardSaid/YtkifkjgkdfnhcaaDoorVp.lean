/- Pairs of days opened out of their readings. -/
import Derived.Test.YtkifkjgkdfnhcaaDoorVr
namespace Go.Proofs.YtkifkjgkdfnhcaaDoor
open Go.ChangeShapes Go.WideShapes Go.Deep Go.RowKit
set_option maxRecDepth 20000
theorem cells33 : Tryd.prog.cellsOf 33 = 2 := by kernel_rfl
theorem open_pair {H : Type} {enc : TypeId × Value → H} {W : World} {base0 : Nat} {spare : Nat → Bool} {held : Bool} {r : Reach} {b0 : Nat} {v : Value} {d : DataW H} {ps : List MemPlace}
    (hv : Value.okWide Tryd.prog W r b0 33 v) (h : DataW.Trod enc Tryd.prog W base0 spare held 33 v d ps) :
    ∃ x y : Int, v = .agg #[.int .i64 x, .int .i64 y] ∧ (-9223372036854775808 ≤ x ∧ x ≤ 9223372036854775807) ∧ (-9223372036854775808 ≤ y ∧ y ≤ 9223372036854775807) := by
  simp only [Value.okWide, Tryd.underlying33] at hv
  obtain ⟨cs, rfl, hs, _⟩ := hv
  rw [cells33] at hs
  obtain ⟨fuel, hf⟩ := h
  obtain ⟨xs, m, _, _, _, hl, hi⟩ := DataW.trod_array Tryd.underlying33 hf
  have at_ : ∀ i, i < 2 → ∃ x, cs[i]? = some (.int .i64 x) ∧ (-9223372036854775808 ≤ x ∧ x ≤ 9223372036854775807) := by
    intro i hin
    have h1 := hi i hin
    rw [cells3, Nat.mul_one, List.getElem?_eq_getElem (by omega)] at h1
    have hlt : i < cs.toList.length := by simpa [hs] using hin
    have h2 : (Value.cells (.agg cs)).toList = cs.toList := rfl
    rw [h2, List.drop_eq_getElem_cons hlt] at h1
    obtain ⟨p, e0, _, wf⟩ := DataW.trod_int Tryd.underlying3 h1
    have e1 := (List.cons.inj e0).1
    refine ⟨p, ?_, bounds_i64 wf⟩
    rw [← e1, Array.getElem?_eq_getElem (by omega)]
    simp
  obtain ⟨x, hx, bx⟩ := at_ 0 (by decide)
  obtain ⟨y, hy, by_⟩ := at_ 1 (by decide)
  refine ⟨x, y, ?_, bx, by_⟩
  congr 1
  apply Array.ext
  · simp [hs]
  · intro i h1 h2
    have h3 : i = 0 ∨ i = 1 := by omega
    rcases h3 with rfl | rfl
    · rw [Array.getElem?_eq_getElem h1] at hx
      exact Option.some.inj hx
    · rw [Array.getElem?_eq_getElem h1] at hy
      exact Option.some.inj hy
end Go.Proofs.YtkifkjgkdfnhcaaDoor
