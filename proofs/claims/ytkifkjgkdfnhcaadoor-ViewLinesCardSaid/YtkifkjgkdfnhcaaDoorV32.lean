/- annuitykeep.CopyBills. -/
import Derived.Test.YtkifkjgkdfnhcaaDoorV31
namespace Go.Proofs.YtkifkjgkdfnhcaaDoor.Vw
open Go.RowKit Go.Sort Go.Lib Go.Shelf
attribute [local go_sem ↓] Go.wp_at_zero Go.wp_at_succ

/-- A bill's loans lie in memory. -/
structure InBl (w : World) (x : Bl) : Prop where
  lies : ∃ rows : List (Array Value), rows.length = x.sn ∧ Sl w x.sp 1 rows x.sc ∧ (∀ r ∈ rows, r.size = 1) ∧ ∀ r ∈ rows, ∀ u ∈ r, u.oneCell' = true
theorem InBl.below {w w1 : World} {x : Bl} (h : InBl w x) (hb : Below w.heap.size w w1) : InBl w1 x := by
  obtain ⟨rows, h1, h2, h3⟩ := h.lies
  exact ⟨rows, h1, h2.below hb, h3⟩
/-- Two bills alike but for where their loans lie. -/
def SameBl (x y : Bl) : Prop := x.month = y.month ∧ x.amount = y.amount ∧ x.left = y.left ∧ x.covered = y.covered ∧ x.plan = y.plan ∧ x.sn = y.sn
theorem app_ints (x : Bl) (hn : x.sn ≤ 1000) (w : World) (h : InBl w x) : ∃ v1 w1, (∀ ty, (Builtin.append_ #[24, 24] ty #[.slice (some ⟨w.heap.size, 0, none⟩) 0 0, .slice x.sp x.sn x.sc]).run Tryd.prog (w.alloc (.cells #[] 3)) = .ok v1 w1) ∧ (∃ p c, v1 = .slice p x.sn c) ∧ Below w.heap.size w w1 := by
  obtain ⟨rows, hl, hs, hr, h1⟩ := h.lies
  have hal := (Below.refl w.heap.size w).alloc (Nat.le_refl _) (.cells #[] 3)
  obtain ⟨v1, w1, hrun, ho, hb⟩ := app_rows 24 3 (.int .i64 0) 1 8 Tryd.underlying24 info3 rfl (by decide) (by decide) w.heap.size w.heap.size 0 0 [] x.sp x.sc rows _ (own_none w 3 1) (Nat.le_refl _) (hs.below hal) hr h1 hal.size (by omega)
  rw [hl] at hrun
  obtain ⟨p, c, hv, _⟩ := sl_own (n := 0 + rows.length) (rows := rows) (by simp) (by decide) hr ho
  exact ⟨v1, w1, hrun, ⟨p, c, by rw [hv, hl]⟩, hal.trans hb⟩
end Go.Proofs.YtkifkjgkdfnhcaaDoor.Vw
