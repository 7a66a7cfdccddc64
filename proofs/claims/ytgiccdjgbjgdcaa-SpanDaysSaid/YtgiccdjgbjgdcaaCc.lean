/- Rows of stretches of the call's own; appends onto them; slices.Grow of nil, slices.Concat. -/
import Derived.Test.YtgiccdjgbjgdcaaPa
import Derived.Maps.AppendAt
namespace Go.Proofs.Ytgiccdjgbjgdcaa.Sp
open Go.RowKit Go.Proofs.YtgiccdjgbjgdcaaW.PrintWords PSpanTells

/-- What a stretch's two cells are. -/
def El (x : S51) (cs : List Value) : Prop := cs = [.int .i64 x.f0, .int .i64 x.f1]
/-- A row of the call's own. -/
def Own (w : World) (base : Nat) (v : Value) (xs : List S51) : Prop := OwnRow El 51 2 w base v xs
theorem el_of_K {w : World} {x : S51} {cs : List Value} (h : k51.K w x cs) : El x cs := k51_open h
theorem K_of_el {w : World} {x : S51} {cs : List Value} (h : El x cs) : k51.K w x cs := by rw [h]; exact k51_mk w x
theorem Own.rd {w : World} {base : Nat} {v : Value} {xs : List S51} (h : Own w base v xs) : Rd w v xs := by
  obtain ⟨A, c, hv, hc, hr⟩ := OwnRow.reads h
  exact ⟨A, c, hv, hc, hr.imp_ (Below.refl _ _) fun _ _ hp => K_of_el hp⟩
theorem Own.nil (w : World) (base : Nat) : Own w base (.slice none 0 0) [] := OwnRow.none_ _ _ _ _ _
theorem Own.lower {w : World} {base base' : Nat} {v : Value} {xs : List S51} (h : Own w base v xs) (hb : base' ≤ base) : Own w base' v xs := by
  obtain ⟨i, h1, h2⟩ := h
  exact ⟨i, own_weaken h1 hb, h2⟩
theorem Own.below {w w1 : World} {base : Nat} {v : Value} {xs : List S51} (h : Own w base v xs) (hb : Below w.heap.size w w1) : Own w1 base v xs := by
  obtain ⟨i, h1, h2⟩ := h
  exact ⟨i, own_move h1 (fun k hk => hb.block k (own_lt h1 k hk)), h2⟩

theorem reps_one {xs : List S51} {news : List Value} (h : Reps El 2 xs news) : ∀ u ∈ news, u.oneCell' = true := by
  intro u hu
  obtain ⟨q, hq, rfl⟩ := List.mem_iff_getElem.1 hu
  have hlen := h.1
  have hql : q / 2 < xs.length := by omega
  have hc : (news.drop (q / 2 * 2)).take 2 = [.int .i64 xs[q / 2].f0, .int .i64 xs[q / 2].f1] := h.2 (q / 2) _ (List.getElem?_eq_getElem hql)
  have hm : news[q] ∈ (news.drop (q / 2 * 2)).take 2 := by
    rw [List.mem_iff_getElem?]
    refine ⟨q % 2, ?_⟩
    rw [List.getElem?_take, if_pos (by omega), List.getElem?_drop, show q / 2 * 2 + q % 2 = q by omega, List.getElem?_eq_getElem hq]
  rw [hc] at hm
  simp at hm
  rcases hm with hm | hm <;> rw [hm] <;> rfl

/-- append(v, ys...). -/
theorem app_rows (base : Nat) (v : Value) (xs ys : List S51) (A : Option Addr) (c : Nat) (W : World) (HO : Own W base v xs) (HR : Kd.C k51 W A ys.length ys) (hbase : base ≤ W.heap.size) (hl : xs.length + ys.length ≤ 1000000) :
    ∃ v1 w1, (∀ ty, (Builtin.append_ #[22, 22] ty #[v, .slice A ys.length c]).run Try.prog W = .ok v1 w1) ∧ Own w1 base v1 (xs ++ ys) ∧ Below base W w1 ∧ W.grownBy w1 v.ownBlock := by
  obtain ⟨i0, hi, hzz⟩ := Option.map_eq_some_iff.1 info51
  simp only [Prod.mk.injEq] at hzz
  obtain ⟨hz0, hz1, hz2⟩ := hzz
  obtain ⟨inner, hown, hr⟩ := HO
  rcases A with _ | ad
  · have h0 : ys.length = 0 := by
      rcases Nat.eq_zero_or_pos ys.length with h0 | h0
      · exact h0
      · obtain ⟨ad, h, _⟩ := HR.2.2 h0
        cases h
    obtain rfl : ys = [] := List.eq_nil_of_length_eq_zero h0
    refine ⟨v, W, fun ty => ?_, by rw [List.append_nil]; exact ⟨inner, hown, hr⟩, Below.refl _ _, World.grownBy.refl W _⟩
    rcases hown.2 with ⟨rfl, hn⟩ | ⟨g, cap, cur, rfl, _, _, hnc, _⟩
    · simp [Builtin.append_, run_underlying Try.underlying22, sizeOf, typeInfo, hi, Builtin.lenOf, Builtin.firstCells]
    · simp [Builtin.append_, run_underlying Try.underlying22, sizeOf, typeInfo, hi, Builtin.lenOf, Builtin.firstCells, hnc, storeCells]
  · obtain ⟨news, hnr, hnc⟩ := ReadsRow.inner_ HR
    have hnE : Reps El 2 ys news := hnr.imp_ fun p c hp => el_of_K hp
    obtain ⟨v1, w1, hrun, ho, hg, _, hat⟩ := run_append_own_at (P := Try.prog) W base 22 22 51 i0 _ 2 16 Try.underlying22 hi hz0 hz1 hz2 rfl (by decide) v xs.length inner hown ad ys.length c news hnE.1 hnc (reps_one hnE)
      (by unfold maxLen; omega) (by omega) hbase
    refine ⟨v1, w1, fun ty => ?_, ⟨inner ++ news, by rw [List.length_append]; exact ho, Kd.reps_append hr hnE⟩, Below.grown (Below.refl _ _) hg hbase fun k hk => own_base hown k hk, hg⟩
    exact hrun

theorem zeros_one (m : Nat) : ∀ u ∈ (Builtin.zeroCells (Value.agg #[(.int .i64 0), (.int .i64 0)]).cells m).toList, u.oneCell' = true := by
  intro u hu
  have hc : (Value.agg #[(.int .i64 0), (.int .i64 0)]).cells = #[.int .i64 0, .int .i64 0] := by kernel_rfl
  rw [hc] at hu
  simp only [Builtin.zeroCells, Array.toList_map, List.mem_map] at hu
  obtain ⟨i, _, rfl⟩ := hu
  have h2 : i % 2 < 2 := Nat.mod_lt _ (by decide)
  show Value.oneCell' (#[Value.int .i64 0, .int .i64 0][i % 2]!) = true
  rcases (show i % 2 = 0 ∨ i % 2 = 1 by omega) with h | h <;> rw [h] <;> rfl

/-- append(nil, make([]T, m)...), m above 0. -/
theorem app_zeros (m : Nat) (hm : m ≤ 1000000) (W : World) :
    ∃ v1 w1, (∀ ty, (Builtin.append_ #[22, 3] ty #[.slice none 0 0, .int .i64 (m : Int)]).run Try.prog W = .ok v1 w1) ∧ (0 < m → ∃ g cap, v1 = .slice (some ⟨g, 0, none⟩) m cap ∧ m ≤ cap ∧ Own w1 W.heap.size (.slice (some ⟨g, 0, none⟩) 0 cap) []) ∧ Below W.heap.size W w1 := by
  obtain ⟨i0, hi, hzz⟩ := Option.map_eq_some_iff.1 info51
  simp only [Prod.mk.injEq] at hzz
  obtain ⟨hz0, hz1, hz2⟩ := hzz
  have h1 : ∀ u ∈ (Builtin.zeroCells (Value.agg #[(.int .i64 0), (.int .i64 0)]).cells m).toList, u.oneCell' = true := zeros_one m
  obtain ⟨v1, w1, hrun, ho, hg, hat⟩ := run_append_zeros (P := Try.prog) W W.heap.size 22 3 22 51 i0 _ 2 16 Try.underlying22 Try.underlying3 hi hz0 hz1 hz2 rfl (by decide) (by decide) (.slice none 0 0) 0 [] (own_nil _ _ _ _) .i64 m h1 (by omega) (Nat.le_refl _)
  refine ⟨v1, w1, fun ty => hrun, fun hp => ?_, Below.grown (Below.refl _ _) hg (Nat.le_refl _) fun k hk => by simp [Value.ownBlock] at hk⟩
  rw [Nat.zero_add] at ho
  rcases ho.2 with ⟨_, h0⟩ | ⟨g, cap, cur, rfl, hb, hh, hc1, hc2, hc3, _⟩
  · omega
  · exact ⟨g, cap, rfl, hc1, [], ⟨rfl, .inr ⟨g, cap, cur, rfl, hb, hh, Nat.zero_le _, hc2, hc3, by simp⟩⟩, Reps.none _ _⟩

/-- An append whose run is known, at the list of a plain region's operations. -/
theorem wpl_append {ops : Array Oper} {rest : List Oper} {o : Oper} {a : Act} {Q : Exit → Act → World → Prop} {W : World} (hgd : o.guard = none) (s x : Operand) (t u : TypeId)
    (ho : o.op = .call { callee := .builtin .append, args := #[s, x], argTypes := #[t, u] }) (vs vx v1 : Value) (w1 : World) (hs : a.eval s = vs) (hx : a.eval x = vx)
    (hrun : ∀ ty, (Builtin.append_ #[t, u] ty #[vs, vx]).run Try.prog W = .ok v1 w1) (h : wpList Try.prog ops Q rest (a.put o.dst v1) w1) : wpList Try.prog ops Q (o :: rest) a W := by
  refine wpList_plain hgd fun K hK => ?_
  unfold Oper.wp execOp
  simp only [ho, resolve, invoke, builtin, Sem.run_bind, Sem.run_pure, Result.andThen_ok, List.map_toArray, List.map_cons, List.map_nil, hs, hx, hrun]
  exact hK _ _ h

theorem h_slice0 (g m cap : Nat) (_h : m ≤ cap) (W : World) : (Instr.slice 22 (.slice (some ⟨g, 0, none⟩) m cap) none (some (.int .i64 0)) none).run Try.prog W = .ok (.slice (some ⟨g, 0, none⟩) 0 cap) W := by
  have hu : Try.prog.underlying 22 = some (.slice (Try.prog.elem 22)) := by rw [el22]; exact Try.underlying22
  rw [run_slice_h W 22 (some ⟨g, 0, none⟩) m cap hu .i64 0 (by omega) (by omega), el22]
  have hz : (sizeOf 51).run Try.prog W = .ok 2 W := by kernel_rfl
  rw [hz]
  simp [sliced, Result.andThen, Addr.add]
theorem h_slicenil (W : World) : (Instr.slice 22 (.slice none 0 0) none (some (.int .i64 0)) none).run Try.prog W = .ok (.slice none 0 0) W := by
  have hu : Try.prog.underlying 22 = some (.slice (Try.prog.elem 22)) := by rw [el22]; exact Try.underlying22
  rw [run_slice_h W 22 none 0 0 hu .i64 0 (by omega) (by omega), el22]
  have hz : (sizeOf 51).run Try.prog W = .ok 2 W := by kernel_rfl
  rw [hz]
  simp [sliced, Result.andThen]

theorem Grow_calls (m : Nat) (hm : m ≤ 1000000) (w : World) :
    Calls Try.prog 35 #[.slice none 0 0, .int .i64 (m : Int)] w fun e w' => ∃ v, e = .returned v ∧ Own w' w.heap.size v [] ∧ Below w.heap.size w w' := by
  have hneg : ¬ ((m : Int) < 0) := by omega
  have h3 : wrap64 (m : Int) = (m : Int) := wr64 _ (by omega)
  rcases Nat.eq_zero_or_pos m with h0 | h0
  · subst h0
    go_enter Try.func35, Try.ntmps35
    go_wp2_with fail
    go_ret
    exact ⟨_, rfl, Own.nil _ _, Below.refl _ _⟩
  · have hpos : (0 : Int) < (m : Int) := by omega
    obtain ⟨v1, w1, hrun, ho, hb⟩ := app_zeros m hm w
    obtain ⟨g, cap, rfl, hcap, hO⟩ := ho h0
    have hs := h_slice0 g m cap hcap
    have hs2 := h_slicenil
    have HO := Lib.hid hO
    have HB := Lib.hid hb
    have HR := Lib.hid hrun
    clear hO hb ho hrun
    go_enter Try.func35, Try.ntmps35
    go_wp2_with ((with_reducible refine gate_builtin (b := .append) (xs := #[.tmp 20, .tmp 21]) rfl ?_); refine wpl_append rfl (.tmp 20) (.tmp 21) 22 3 rfl _ _ _ _ rfl rfl HR.out ?_)
    go_ret
    exact ⟨_, rfl, HO.out, HB.out⟩
end Go.Proofs.Ytgiccdjgbjgdcaa.Sp
