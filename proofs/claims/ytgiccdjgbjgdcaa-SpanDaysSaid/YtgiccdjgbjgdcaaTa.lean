/- An array of numbers opened out of its reading. -/
import Derived.Test.YtgiccdjgbjgdcaaTr
import Derived.OpenShut
namespace Go.Proofs.Ytgiccdjgbjgdcaa
open Go.ChangeShapes Go.WideShapes Go.Deep Go.RowKit
theorem open_ints {H : Type} {enc : TypeId × Value → H} {P : Program} {W : World} {base0 : Nat} {spare : Nat → Bool} {held : Bool} {r : Reach} {b0 : Nat} {t e : TypeId} {n : Nat} {v : Value} {d : DataW H} {ps : List MemPlace}
    (ht : P.underlying t = some (.array n e)) (hc : P.cellsOf t = n) (hce : P.cellsOf e = 1) (he : P.underlying e = some (.int .i64))
    (hv : Value.okWide P W r b0 t v) (h : DataW.Trod enc P W base0 spare held t v d ps) : ∃ xs : List Int, v = .agg (xs.map (Value.int .i64)).toArray ∧ xs.length = n := by
  simp only [Value.okWide, ht] at hv
  obtain ⟨cs, rfl, hs, _⟩ := hv
  rw [hc] at hs
  obtain ⟨fuel, hf⟩ := h
  obtain ⟨xs, m, _, _, _, hl, hi⟩ := DataW.trod_array ht hf
  obtain ⟨zs, hzl, hz⟩ := list_of (α := Int) n (fun i x => cs[i]? = some (.int .i64 x)) (by
    intro i hin
    have h1 := hi i hin
    rw [hce, Nat.mul_one, List.getElem?_eq_getElem (by omega)] at h1
    have hlt : i < cs.toList.length := by simpa [hs] using hin
    have h2 : (Value.cells (.agg cs)).toList = cs.toList := rfl
    rw [h2, List.drop_eq_getElem_cons hlt] at h1
    obtain ⟨p, e0, _, _⟩ := DataW.trod_int he h1
    have e1 := (List.cons.inj e0).1
    refine ⟨p, ?_⟩
    rw [← e1, Array.getElem?_eq_getElem (by omega)]
    simp)
  refine ⟨zs, ?_, hzl⟩
  congr 1
  apply Array.ext
  · simp [hs, hzl]
  · intro i h1 h2
    have := hz i (by omega)
    rw [Array.getElem?_eq_getElem h1] at this
    simp only [Option.some.injEq] at this
    rw [this]
    simp
end Go.Proofs.Ytgiccdjgbjgdcaa
