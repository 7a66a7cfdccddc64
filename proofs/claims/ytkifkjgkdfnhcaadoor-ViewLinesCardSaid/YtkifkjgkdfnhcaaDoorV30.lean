/- annuitykeep.CopyLoans. -/
import Derived.Test.YtkifkjgkdfnhcaaDoorV25
namespace Go.Proofs.YtkifkjgkdfnhcaaDoor.Vw
open Go.RowKit Go.Sort Go.Lib Go.Shelf
attribute [local go_sem ↓] Go.wp_at_zero Go.wp_at_succ

theorem info23 : (Tryd.prog.info? 23).map (fun i => (i.zero, i.size, i.bytes)) = some (some zeroLn.v, 13, 104) := by kernel_rfl
theorem info26 : (Tryd.prog.info? 26).map (fun i => (i.zero, i.size, i.bytes)) = some (some (.agg #[.int .i64 0, .int .i64 0, .int .i64 0, .int .i64 0, .int .i64 0, .slice none 0 0]), 6, 64) := by kernel_rfl
theorem info3 : (Tryd.prog.info? 3).map (fun i => (i.zero, i.size, i.bytes)) = some (some (.int .i64 0), 1, 8) := by kernel_rfl
/-- An append whose run is known, as the next operation. -/
theorem wpList_append_run {ops : Array Oper} {rest : List Oper} {o : Oper} {a : Act} {Q : Exit → Act → World → Prop} {W : World} {F : Value → World → Prop} (hgd : o.guard = none) (s x : Operand) (t : TypeId)
    (ho : o.op = .call { callee := .builtin .append, args := #[s, x], argTypes := #[t, t] }) (vs vx : Value) (hs : a.eval s = vs) (hx : a.eval x = vx)
    (hex : ∃ v1 w1, (∀ ty, (Builtin.append_ #[t, t] ty #[vs, vx]).run Tryd.prog W = .ok v1 w1) ∧ F v1 w1) (h : ∀ v1 w1, F v1 w1 → wpList Tryd.prog ops Q rest (a.put o.dst v1) w1) :
    wpList Tryd.prog ops Q (o :: rest) a W := wpList_plain hgd fun _ hK => by
  obtain ⟨v1, w1, hrun, hF⟩ := hex
  unfold Oper.wp execOp
  simp only [ho, resolve, invoke, builtin, Sem.run_bind, Sem.run_pure, Result.andThen_ok, List.map_toArray, List.map_cons, List.map_nil, hs, hx, hrun]
  exact hK _ _ (h _ _ hF)
/-- Rows of one size, one behind the other: the cell at a place. -/
theorem flat_at (sz : Nat) (hz : 0 < sz) : ∀ (rows : List (Array Value)), (∀ r ∈ rows, r.size = sz) → ∀ (j : Nat) (u : Value), (rows.flatMap Array.toList)[j]? = some u → ∃ i k r, rows[i]? = some r ∧ k < sz ∧ r[k]? = some u ∧ j = i * sz + k := by
  intro rows
  induction rows with
  | nil => intro _ j u h; simp at h
  | cons r rs ih =>
    intro hs j u h
    rw [List.flatMap_cons] at h
    have hr : r.toList.length = sz := by rw [Array.length_toList]; exact hs r (by simp)
    by_cases hj : j < sz
    · rw [List.getElem?_append_left (by omega)] at h
      exact ⟨0, j, r, rfl, hj, by simpa using h, by simp⟩
    · rw [List.getElem?_append_right (by omega), hr] at h
      obtain ⟨i, k, r', h1, h2, h3, h4⟩ := ih (fun r hr => hs r (by simp [hr])) (j - sz) u h
      exact ⟨i + 1, k, r', by simpa using h1, h2, h3, by rw [Nat.succ_mul]; omega⟩
theorem flat_len (sz : Nat) : ∀ (rows : List (Array Value)), (∀ r ∈ rows, r.size = sz) → (rows.flatMap Array.toList).length = rows.length * sz := by
  intro rows
  induction rows with
  | nil => intro _; simp
  | cons r rs ih =>
    intro hs
    rw [List.flatMap_cons, List.length_append, ih (fun r hr => hs r (by simp [hr])), Array.length_toList, hs r (by simp), List.length_cons, Nat.succ_mul]
    omega
theorem by_le {a b : Nat} (h : a ≤ 1000000) (h2 : b ≤ 1000) : a * b ≤ 140737488355328 := Nat.le_trans (Nat.mul_le_mul h h2) (of_decide_eq_true rfl)
/-- append(v, rows...) where the rows lie in memory, or the source is nil. -/
theorem app_rows (t e : TypeId) (z : Value) (sz bytes : Nat) (ht : Tryd.prog.underlying t = some (.slice e)) (hinfo : (Tryd.prog.info? e).map (fun i => (i.zero, i.size, i.bytes)) = some (some z, sz, bytes)) (hzs : z.cells.size = sz) (hsz : 0 < sz) (hby : bytes ≤ 1000)
    (base g cp : Nat) (n : Nat) (xs : List Value) (p : Option Addr) (cap : Nat) (rows : List (Array Value)) (W : World) (HO : W.ownsRow base e sz (.slice (some ⟨g, 0, none⟩) n cp) n xs) (hcp : n ≤ cp)
    (HR : Sl W p sz rows cap) (hrow : ∀ r ∈ rows, r.size = sz) (h1 : ∀ r ∈ rows, ∀ u ∈ r, u.oneCell' = true) (hbase : base ≤ W.heap.size) (hl : n + rows.length ≤ 1000000) :
    ∃ v1 w1, (∀ ty, (Builtin.append_ #[t, t] ty #[.slice (some ⟨g, 0, none⟩) n cp, .slice p rows.length cap]).run Tryd.prog W = .ok v1 w1) ∧ w1.ownsRow base e sz v1 (n + rows.length) (xs ++ rows.flatMap Array.toList) ∧ Below base W w1 := by
  obtain ⟨i0, hi, hz0, hz1, hz2⟩ := info_parts hinfo
  rcases p with _ | ad
  · have h0 : rows = [] := by
      rcases HR.lies with h | ⟨b, off, h, _⟩
      · exact h
      · cases h
    subst h0
    refine ⟨_, W, fun ty => ?_, by simpa using HO, Below.refl _ _⟩
    simp [Builtin.append_, run_underlying ht, sizeOf, typeInfo, hi, Builtin.lenOf, Builtin.firstCells, hcp, storeCells]
  · obtain ⟨v1, w1, hrun, ho, hg, _⟩ := run_append_own (P := Tryd.prog) W base t t e i0 z sz bytes ht hi hz0 hz1 hz2 hzs hsz _ n xs HO ad rows.length cap (rows.flatMap Array.toList) (flat_len sz rows hrow) (by
        intro j u hu
        obtain ⟨i, k, r, e1, e2, e3, rfl⟩ := flat_at sz hsz rows hrow j u hu
        rcases HR.lies with h | ⟨b, off, hp, _, hc⟩
        · subst h; simp at e1
        · cases hp
          have := hc i r e1 k e2
          have e : (⟨b, off, none⟩ : Addr).add (i * sz + k) = ⟨b, off + i * sz + k, none⟩ := by unfold Addr.add; split <;> simp_all [Nat.add_assoc]
          rw [e, this, e3]) (by
        intro u hu
        obtain ⟨r, hr, hur⟩ := List.mem_flatMap.1 hu
        exact h1 r hr u (by simpa using hur)) (by unfold maxLen; omega) (by_le hl hby) hbase
    exact ⟨v1, w1, fun ty => hrun, ho, Below.grown (Below.refl _ _) hg hbase fun k hk => (HO.lt k hk).1⟩
end Go.Proofs.YtkifkjgkdfnhcaaDoor.Vw
