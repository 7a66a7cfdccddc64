/- annuitykeep.CopyLoans. -/
import Derived.Test.YtkifkjgkdfnhcaaDoorV30
namespace Go.Proofs.YtkifkjgkdfnhcaaDoor.Vw
open Go.RowKit Go.Sort Go.Lib Go.Shelf
attribute [local go_sem ↓] Go.wp_at_zero Go.wp_at_succ

theorem flat_get (sz : Nat) : ∀ (rows : List (Array Value)), (∀ r ∈ rows, r.size = sz) → ∀ (i : Nat) (r : Array Value), rows[i]? = some r → ∀ k, k < sz → (rows.flatMap Array.toList)[i * sz + k]? = r[k]? := by
  intro rows
  induction rows with
  | nil => intro _ i r h; simp at h
  | cons x rs ih =>
    intro hs i r h k hk
    have hx : x.toList.length = sz := by rw [Array.length_toList]; exact hs x (by simp)
    rw [List.flatMap_cons]
    cases i with
    | zero =>
      simp at h
      subst h
      rw [Nat.zero_mul, Nat.zero_add, List.getElem?_append_left (by omega), Array.getElem?_toList]
    | succ i =>
      rw [List.getElem?_append_right (by rw [Nat.succ_mul]; omega), hx, show (i + 1) * sz + k - sz = i * sz + k by rw [Nat.succ_mul]; omega]
      exact ih (fun r hr => hs r (by simp [hr])) i r (by simpa using h) k hk
/-- A row of the call's own lies in memory. -/
theorem sl_own {w : World} {base : Nat} {e : TypeId} {sz : Nat} {v : Value} {n : Nat} {rows : List (Array Value)} (hn : n = rows.length) (hsz : 0 < sz) (hrow : ∀ r ∈ rows, r.size = sz) (h : w.ownsRow base e sz v n (rows.flatMap Array.toList)) : ∃ p c, v = .slice p rows.length c ∧ Sl w p sz rows c ∧ ∀ a, p = some a → base ≤ a.block := by
  subst hn
  rcases h.2 with ⟨rfl, h0⟩ | ⟨g, cap, cur, rfl, hbg, hg, hnc, _, hcs, htk⟩
  · have := List.eq_nil_of_length_eq_zero h0
    subst this
    exact ⟨none, 0, rfl, ⟨Nat.le_refl _, .inl rfl⟩, fun a ha => by cases ha⟩
  · refine ⟨_, cap, rfl, ⟨hnc, .inr ⟨g, 0, rfl, (Array.getElem?_eq_some_iff.1 hg).1, fun i r hr k hk => ?_⟩⟩, fun a ha => by cases ha; exact hbg⟩
    have hil : i < rows.length := (List.getElem?_eq_some_iff.1 hr).1
    have hjl : i * sz + k < rows.length * sz := by
      have : (i + 1) * sz ≤ rows.length * sz := Nat.mul_le_mul_right _ hil
      rw [Nat.succ_mul] at this
      omega
    rw [Nat.zero_add, cell_of_row w g _ cur e (0, 0) hg]
    rw [← flat_get sz rows hrow i r hr k hk, ← htk, List.getElem?_take_of_lt hjl, Array.getElem?_toList]
/-- Nothing yet, in a block of no cells. -/
theorem own_none (w : World) (e : TypeId) (sz : Nat) : (w.alloc (.cells #[] e)).ownsRow w.heap.size e sz (.slice (some ⟨w.heap.size, 0, none⟩) 0 0) 0 [] :=
  ⟨by simp, .inr ⟨w.heap.size, 0, #[], rfl, Nat.le_refl _, heap_alloc_new w _, Nat.le_refl _, Nat.zero_le _, by simp, by simp⟩⟩
set_option maxRecDepth 20000 in
theorem copyloans_calls (L : List Ln) (p : Option Addr) (cap : Nat) (w : World) (hS : Sl w p 13 (L.map Ln.cells) cap) (hl : L.length ≤ 1000) :
    Calls Tryd.prog 33 #[.slice p L.length cap] w fun e w' => (∃ p' c', e = .returned (.slice p' L.length c') ∧ Sl w' p' 13 (L.map Ln.cells) c' ∧ ∀ a, p' = some a → w.heap.size ≤ a.block) ∧ Below w.heap.size w w' := by
  have hal := (Below.refl w.heap.size w).alloc (Nat.le_refl _) (.cells #[] 23)
  have hrow : ∀ r ∈ L.map Ln.cells, r.size = 13 := by
    intro r hr
    obtain ⟨l, _, rfl⟩ := List.mem_map.1 hr
    rfl
  have h1 : ∀ r ∈ L.map Ln.cells, ∀ u ∈ r, u.oneCell' = true := by
    intro r hr u hu
    obtain ⟨l, _, rfl⟩ := List.mem_map.1 hr
    simp [Ln.cells] at hu
    rcases hu with rfl | rfl | rfl | rfl | rfl | rfl | rfl | rfl | rfl | rfl | rfl | rfl | rfl <;> rfl
  have hA := app_rows 36 23 zeroLn.v 13 104 Tryd.underlying36 info23 rfl (by decide) (by decide) w.heap.size w.heap.size 0 0 [] p cap (L.map Ln.cells) _ (own_none w 23 13) (Nat.le_refl _) (hS.below hal) hrow h1 hal.size (by rw [List.length_map]; omega)
  rw [List.length_map] at hA
  have HA := Lib.hid hA
  have HB := Lib.hid hal
  have HR := Lib.hid hrow
  clear hA hal hrow h1 hS
  go_enter Tryd.func33, Tryd.ntmps33
  go_wp2_with (at_builtin; refine Hid.out ?_)
  refine Lib.hid ?_
  refine wpList_append_run rfl (.tmp 3) (.tmp 4) 36 rfl _ _ rfl rfl HA.out ?_
  rintro v1 w1 ⟨f1, f2⟩
  obtain ⟨p', c', rfl, hs⟩ := sl_own (n := 0 + L.length) (rows := L.map Ln.cells) (by simp) (by decide) HR.out f1
  have HF := Lib.hid hs
  have HB2 := Lib.hid (HB.out.trans f2)
  clear f1 f2 hs
  go_wp2_with fail
  go_ret
  exact ⟨⟨p', c', rfl, HF.out⟩, HB2.out⟩
end Go.Proofs.YtkifkjgkdfnhcaaDoor.Vw
