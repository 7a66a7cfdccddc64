/- Arrays of numbers opened out of their readings; closed facts. -/
import Derived.Test.YticgmjnilpmkpaaF5
import Derived.Test.YticgmjnilpmkpaaRows
import Derived.Test.YticgmjnilpmkpaaRw
import Derived.Deep.Slices
import Derived.Deep.Fields
import Derived.ChangeSame
import Derived.SizedLaws
import Derived.OpenShut
namespace Go.Proofs.Yticgmjnilpmkpaa
open Go.ChangeShapes Go.WideShapes Go.Deep Go.RowKit
theorem list_of {α : Type} (n : Nat) (P : Nat → α → Prop) (h : ∀ i, i < n → ∃ x, P i x) : ∃ xs : List α, xs.length = n ∧ ∀ i (hi : i < xs.length), P i xs[i] := by
  induction n with
  | zero => exact ⟨[], rfl, fun i hi => absurd hi (by simp)⟩
  | succ n ih =>
    obtain ⟨xs, hl, hx⟩ := ih fun i hi => h i (by omega)
    obtain ⟨y, hy⟩ := h n (by omega)
    refine ⟨xs ++ [y], by simp [hl], fun i hi => ?_⟩
    by_cases hlt : i < xs.length
    · rw [List.getElem_append_left hlt]; exact hx i hlt
    · have e : i = n := by simp at hi; omega
      subst e
      rw [List.getElem_append_right (by omega)]
      simpa [hl] using hy
theorem open_ints {H : Type} {enc : TypeId × Value → H} {P : Program} {W : World} {base0 : Nat} {spare : Nat → Bool} {held : Bool} {r : Reach} {b0 : Nat} {t e : TypeId} {n : Nat} {v : Value} {d : DataW H} {ps : List MemPlace}
    (ht : P.underlying t = some (.array n e)) (hc : P.cellsOf t = n) (hce : P.cellsOf e = 1) (he : P.underlying e = some (.int .i64))
    (hv : Value.okWide P W r b0 t v) (h : DataW.Trod enc P W base0 spare held t v d ps) : ∃ xs : List Int, v = .agg (xs.map (Value.int .i64)).toArray ∧ xs.length = n := by
  simp only [Value.okWide, ht] at hv
  obtain ⟨cs, rfl, hs, _⟩ := hv
  rw [hc] at hs
  obtain ⟨fuel, hf⟩ := h
  obtain ⟨xs, m, _, _, _, hl, hi⟩ := DataW.trod_array ht hf
  obtain ⟨zs, hzl, hz⟩ := list_of (α := Int) n (fun i x => cs[i]? = some (.int .i64 x)) (by
    intro i hin
    have h1 := hi i hin
    rw [hce, Nat.mul_one, List.getElem?_eq_getElem (by omega)] at h1
    have hlt : i < cs.toList.length := by simpa [hs] using hin
    have h2 : (Value.cells (.agg cs)).toList = cs.toList := rfl
    rw [h2, List.drop_eq_getElem_cons hlt] at h1
    obtain ⟨p, e0, _, _⟩ := DataW.trod_int he h1
    have e1 := (List.cons.inj e0).1
    refine ⟨p, ?_⟩
    rw [← e1, Array.getElem?_eq_getElem (by omega)]
    simp)
  refine ⟨zs, ?_, hzl⟩
  congr 1
  apply Array.ext
  · simp [hs, hzl]
  · intro i h1 h2
    have := hz i (by omega)
    rw [Array.getElem?_eq_getElem h1] at this
    simp only [Option.some.injEq] at this
    rw [this]
    simp
theorem own : ownKnob Try.prog.godebug = none := by kernel_rfl
theorem laidOut : laidOutB Try.prog = true := by kernel_rfl
theorem two_of (zs : List Int) (h : zs.length = 2) : ∃ f t, zs = [f, t] := by
  match zs, h with
  | [f, t], _ => exact ⟨f, t, rfl⟩
theorem cells41 : Try.prog.cellsOf 41 = 2 := by kernel_rfl
theorem cells2 : Try.prog.cellsOf 2 = 1 := by kernel_rfl
end Go.Proofs.Yticgmjnilpmkpaa
