/- A slice of pairs of short numbers, and a slice of numbers, opened out of their readings. -/
import Derived.Test.YtgiccdjgbjgdcaaTr
import Derived.Test.YtgiccdjgbjgdcaaOr
import Derived.OpenShut
namespace Go.Proofs.Ytgiccdjgbjgdcaa
open Go.ChangeShapes Go.WideShapes Go.Deep Go.RowKit
open PSpanTells Go.Proofs.YtgiccdjgbjgdcaaW.PrintWords
theorem cells48 : Try.prog.cellsOf 48 = 2 := by kernel_rfl
theorem cells47 : Try.prog.cellsOf 47 = 1 := by kernel_rfl
theorem cells3b : Try.prog.cellsOf 3 = 1 := by kernel_rfl
section
variable {H : Type} {enc : TypeId × Value → H} {W : World} {base0 : Nat} {spare : Nat → Bool} {held : Bool} {r : Reach} {b0 : Nat} {v : Value} {d : DataW H} {ps : List MemPlace}
theorem open_pairs (hv : Value.okWide Try.prog W r b0 46 v) (h : DataW.Trod enc Try.prog W base0 spare held 46 v d ps) :
    ∃ (A : Option Addr) (cap : Nat) (l : List (Int × Int)), v = .slice A l.length cap ∧ l.length ≤ cap ∧ ReadsRow Sp.ElP 2 W A l.length l ∧ ∀ p ∈ l, Sp.U16 p := by
  obtain ⟨A, len, cap, rfl⟩ := okWide_slice Try.underlying46 hv
  obtain ⟨fuel, hf⟩ := h
  rcases open_slice Try.underlying46 hf with ⟨hcs, _⟩ | ⟨a, l, c, m, n, D, Pl, hcs, _, hl, hm, hmm, _, hi⟩
  · simp [Value.cells] at hcs
    obtain ⟨rfl, rfl, rfl⟩ := hcs
    exact ⟨none, 0, [], rfl, Nat.le_refl _, ⟨rfl, by simp, fun h => absurd h (Nat.lt_irrefl 0)⟩, by simp⟩
  · simp [Value.cells] at hcs
    obtain ⟨rfl, rfl, rfl⟩ := hcs
    have hlm : len ≤ m := by rw [hmm]; split; exact hl; exact Nat.le_refl _
    rw [cells48] at hi
    obtain ⟨xs, hxl, hxs⟩ := list_of (α := Int × Int) len (fun i x => W.cell? ((a.add (i * 2)).add 0) = some (.int .u16 x.1) ∧ W.cell? ((a.add (i * 2)).add 1) = some (.int .u16 x.2) ∧ Sp.U16 x) (by
      intro i hil
      obtain ⟨cs', hc, ht⟩ := hi i (by omega)
      obtain ⟨zs, k, _, _, hcl0, hzl, hz⟩ := DataW.trod_array Try.underlying48 ht
      obtain ⟨_, hcl, hat⟩ := World.cells?_some hc
      have z0 := hz 0 (by omega)
      have z1 := hz 1 (by omega)
      rw [cells47, List.getElem?_eq_getElem (by omega)] at z0 z1
      have hlen : cs'.length = 2 := by rw [hcl0, cells48]
      match cs', hlen with
      | [c0, c1], _ =>
        obtain ⟨p, e0, _, w0⟩ := DataW.trod_int Try.underlying47 z0
        obtain ⟨q, e1, _, w1⟩ := DataW.trod_int Try.underlying47 z1
        simp at e0 e1
        subst e0 e1
        have b0 := bounds_u16 w0
        have b1 := bounds_u16 w1
        exact ⟨⟨p, q⟩, hat 0 (by omega), hat 1 (by omega), b0.1, b0.2, b1.1, b1.2⟩)
    subst hxl
    refine ⟨some a, cap, xs, rfl, hl, ⟨rfl, by unfold maxLen at hm; omega, fun _ => ⟨a, rfl, fun j x hj => ?_⟩⟩, fun p hp => ?_⟩
    · obtain ⟨hlt, rfl⟩ := List.getElem?_eq_some_iff.1 hj
      obtain ⟨h0, h1, _⟩ := hxs j hlt
      refine ⟨[.int .u16 xs[j].1, .int .u16 xs[j].2], rfl, rfl, fun i u hu => ?_⟩
      rw [Go.Deep.add_add] at h0 h1
      rcases i with _ | _ | i
      · simp at hu; subst hu; exact h0
      · simp at hu; subst hu; exact h1
      · simp at hu
    · obtain ⟨i, hi, rfl⟩ := List.getElem_of_mem hp
      exact (hxs i hi).2.2
theorem open_nums (hv : Value.okWide Try.prog W r b0 44 v) (h : DataW.Trod enc Try.prog W base0 spare held 44 v d ps) :
    ∃ (A : Option Addr) (cap : Nat) (L : List Int), v = .slice A L.length cap ∧ L.length ≤ cap ∧ Kd.C Sp.kI W A L.length L := by
  obtain ⟨A, len, cap, rfl⟩ := okWide_slice Try.underlying44 hv
  obtain ⟨fuel, hf⟩ := h
  rcases open_slice1 Try.underlying44 cells3b hf with ⟨hcs, _⟩ | ⟨a, l, c, m, n, V, D, Pl, hcs, _, hl, hm, hmm, _, hi⟩
  · simp [Value.cells] at hcs
    obtain ⟨rfl, rfl, rfl⟩ := hcs
    exact ⟨none, 0, [], rfl, Nat.le_refl _, Kd.C_nil Sp.kI _⟩
  · simp [Value.cells] at hcs
    obtain ⟨rfl, rfl, rfl⟩ := hcs
    have hlm : len ≤ m := by rw [hmm]; split; exact hl; exact Nat.le_refl _
    obtain ⟨xs, hxl, hxs⟩ := list_of (α := Int) len (fun i x => W.cell? (a.add i) = some (.int .i64 x)) (by
      intro i hil
      obtain ⟨hc, ht⟩ := hi i (by omega)
      obtain ⟨p, e0, _, _⟩ := DataW.trod_int Try.underlying3 ht
      have := (List.cons.inj e0).1
      exact ⟨p, by rw [hc, this]⟩)
    subst hxl
    refine ⟨some a, cap, xs, rfl, hl, rfl, by unfold maxLen at hm; omega, fun _ => ⟨a, rfl, fun j x hj => ?_⟩⟩
    obtain ⟨hlt, rfl⟩ := List.getElem?_eq_some_iff.1 hj
    have h0 := hxs j hlt
    refine ⟨[.int .i64 xs[j]], rfl, rfl, fun i u hu => ?_⟩
    rcases i with _ | i
    · simp at hu
      subst hu
      have e : j * Sp.kI.sz + 0 = j := by show j * 1 + 0 = j; omega
      rw [e]
      exact h0
    · simp at hu
end
end Go.Proofs.Ytgiccdjgbjgdcaa
