/- append([]Span{}, s...): a copy. -/
import Derived.Test.YtgiccdjgbjgdcaaTe
namespace Go.Proofs.Ytgiccdjgbjgdcaa.Sp
open Go.RowKit Go.Proofs.YtgiccdjgbjgdcaaW.PrintWords PSpanTells

theorem copy_rd (A : Option Addr) (c : Nat) (xs : List S51) (w : World) (hr : Kd.C k51 w A xs.length xs) (hl : xs.length ≤ 100000) :
    ∃ v1 w1, (∀ ty, (Builtin.append_ #[22, 22] ty #[.slice (some ⟨w.heap.size, 0, none⟩) 0 0, .slice A xs.length c]).run Try.prog (w.alloc (.cells #[] 51)) = .ok v1 w1) ∧ Rd w1 v1 xs ∧ Below w.heap.size w w1 := by
  obtain ⟨v1, w1, hrun, ho, hb, _⟩ := app_rows w.heap.size _ [] xs A c _ (own_empty w) (Kd.C_below hr ((Below.refl w.heap.size w).alloc (Nat.le_refl _) _)) (by simp) (by simp; omega)
  rw [List.nil_append] at ho
  exact ⟨v1, w1, hrun, ho.rd, ((Below.refl w.heap.size w).alloc (Nat.le_refl _) (.cells #[] 51)).trans hb⟩
end Go.Proofs.Ytgiccdjgbjgdcaa.Sp
