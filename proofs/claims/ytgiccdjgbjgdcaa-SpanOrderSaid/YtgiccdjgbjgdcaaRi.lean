/- Rows of whole numbers, and of the reference's stretches, of the call's own; appends onto them, in plain regions and in regions that draw their order. -/
import Derived.Test.YtgiccdjgbjgdcaaCu
import Derived.Test.YtgiccdjgbjgdcaaRg
import Derived.Deep.RegionHeld3
import Derived.Deep.DrawnRows
import Derived.BigQuiet
namespace Go.Proofs.Ytgiccdjgbjgdcaa.Sp
open Go.RowKit Go.Proofs.YtgiccdjgbjgdcaaW.PrintWords PSpanTells

abbrev kI : Kd Int := Kd.int .i64
theorem kI_mk (w : World) (x : Int) : kI.K w x [.int .i64 x] := rfl
theorem kI_open {w : World} {x : Int} {cs : List Value} (h : kI.K w x cs) : cs = [.int .i64 x] := h
def ElI (x : Int) (cs : List Value) : Prop := cs = [.int .i64 x]
def OwnI (w : World) (base : Nat) (v : Value) (L : List Int) : Prop := OwnRow ElI 3 1 w base v L
/-- A value that reads as a list of numbers. -/
def Ri (w : World) (v : Value) (L : List Int) : Prop := ∃ A c, v = .slice A L.length c ∧ L.length ≤ c ∧ Kd.C kI w A L.length L
theorem Ri.below {w w1 : World} {v : Value} {L : List Int} (h : Ri w v L) (hb : Below w.heap.size w w1) : Ri w1 v L := by
  obtain ⟨A, c, h1, h2, h3⟩ := h
  exact ⟨A, c, h1, h2, Kd.C_below h3 hb⟩
theorem Ri.nil (w : World) : Ri w (.slice none 0 0) [] := ⟨none, 0, rfl, Nat.le_refl _, Kd.C_nil kI _⟩
theorem OwnI.rd {w : World} {base : Nat} {v : Value} {L : List Int} (h : OwnI w base v L) : Ri w v L := by
  obtain ⟨A, c, hv, hc, hr⟩ := OwnRow.reads h
  exact ⟨A, c, hv, hc, hr.imp_ (Below.refl _ _) fun _ _ hp => hp⟩
theorem at_I {w : World} {A : Option Addr} {L : List Int} (h : Kd.C kI w A L.length L) (i : Nat) (hi : i < L.length) : ∃ ad, A = some ad ∧ w.cell? (ad.add i) = some (.int .i64 L[i]) := by
  obtain ⟨ad, rfl, hc⟩ := h.2.2 (by omega)
  obtain ⟨c, _, hk, hcell⟩ := hc i _ (List.getElem?_eq_getElem hi)
  have hk' : c = [.int .i64 L[i]] := hk
  subst hk'
  refine ⟨ad, rfl, ?_⟩
  have := hcell 0 _ rfl
  have hsz : kI.sz = 1 := rfl
  rw [hsz] at this
  simpa using this
theorem info3k : (Try.prog.info? 3).map (fun i => (i.zero, i.size, i.bytes)) = some (some (.int .i64 0), 1, 8) := by kernel_rfl
theorem el44 : Try.prog.elem 44 = 3 := by simp [Program.elem, Try.underlying44]
theorem el24 : Try.prog.elem 24 = 53 := by simp [Program.elem, Try.underlying24]
theorem own_emptyI (w : World) : OwnI (w.alloc (.cells #[] 3)) w.heap.size (.slice (some ⟨w.heap.size, 0, none⟩) 0 0) [] :=
  ⟨[], ⟨rfl, .inr ⟨w.heap.size, 0, #[], rfl, Nat.le_refl _, heap_alloc_new w _, Nat.le_refl _, Nat.zero_le _, by simp, by simp⟩⟩, Reps.none _ _⟩
theorem OwnI.below {w w1 : World} {base : Nat} {v : Value} {xs : List Int} (h : OwnI w base v xs) (hb : Below w.heap.size w w1) : OwnI w1 base v xs := by
  obtain ⟨i, h1, h2⟩ := h
  exact ⟨i, own_move h1 (fun k hk => hb.block k (own_lt h1 k hk)), h2⟩
theorem one_rowI (w : World) (ad : Addr) (x : Int) (h : w.cell? ad = some (.int .i64 x)) : Kd.C kI w (some ad) [x].length [x] := by
  refine ⟨rfl, by simp, fun _ => ⟨ad, rfl, fun j p hj => ?_⟩⟩
  have h0 : j = 0 := by
    rcases j with _ | j
    · rfl
    · simp at hj
  subst h0
  simp at hj
  subst hj
  refine ⟨[.int .i64 x], rfl, rfl, fun i u hu => ?_⟩
  rcases i with _ | i
  · simp at hu
    subst hu
    simpa [Addr.add] using h
  · simp at hu
/-- append(v, news...) of numbers. -/
theorem app_int (base : Nat) (v : Value) (xs ys : List Int) (A : Option Addr) (c : Nat) (W : World) (HO : OwnI W base v xs) (HR : Kd.C kI W A ys.length ys) (hbase : base ≤ W.heap.size) (hl : xs.length + ys.length ≤ 1000000) :
    ∃ v1 w1, (∀ ty, (Builtin.append_ #[44, 44] ty #[v, .slice A ys.length c]).run Try.prog W = .ok v1 w1) ∧ OwnI w1 base v1 (xs ++ ys) ∧ Below base W w1 ∧ W.grownBy w1 v.ownBlock := by
  obtain ⟨i0, hi, hzz⟩ := Option.map_eq_some_iff.1 info3k
  simp only [Prod.mk.injEq] at hzz
  obtain ⟨hz0, hz1, hz2⟩ := hzz
  obtain ⟨inner, hown, hr⟩ := HO
  rcases A with _ | ad
  · have h0 : ys.length = 0 := by
      rcases Nat.eq_zero_or_pos ys.length with h0 | h0
      · exact h0
      · obtain ⟨ad, h, _⟩ := HR.2.2 h0
        cases h
    obtain rfl : ys = [] := List.eq_nil_of_length_eq_zero h0
    refine ⟨v, W, fun ty => ?_, by rw [List.append_nil]; exact ⟨inner, hown, hr⟩, Below.refl _ _, World.grownBy.refl W _⟩
    rcases hown.2 with ⟨rfl, hn⟩ | ⟨g, cap, cur, rfl, _, _, hnc, _⟩
    · simp [Builtin.append_, run_underlying Try.underlying44, sizeOf, typeInfo, hi, Builtin.lenOf, Builtin.firstCells]
    · simp [Builtin.append_, run_underlying Try.underlying44, sizeOf, typeInfo, hi, Builtin.lenOf, Builtin.firstCells, hnc, storeCells]
  · obtain ⟨news, hnr, hnc⟩ := ReadsRow.inner_ HR
    have hnE : Reps ElI 1 ys news := hnr.imp_ fun p c hp => hp
    have h1 : ∀ u ∈ news, u.oneCell' = true := by
      intro u hu
      obtain ⟨q, hq, rfl⟩ := List.mem_iff_getElem.1 hu
      have hlen := hnE.1
      have hql : q < ys.length := by omega
      have hcc : (news.drop (q * 1)).take 1 = [.int .i64 ys[q]] := hnE.2 q _ (List.getElem?_eq_getElem hql)
      rw [Nat.mul_one, List.drop_eq_getElem_cons hq] at hcc
      have hc1 := (List.cons.inj hcc).1
      rw [hc1]
      rfl
    obtain ⟨v1, w1, hrun, ho, hg, _, hat⟩ := run_append_own_at (P := Try.prog) W base 44 44 3 i0 _ 1 8 Try.underlying44 hi hz0 hz1 hz2 rfl (by decide) v xs.length inner hown ad ys.length c news hnE.1 hnc h1
      (by unfold maxLen; omega) (by omega) hbase
    refine ⟨v1, w1, fun ty => ?_, ⟨inner ++ news, by rw [List.length_append]; exact ho, Kd.reps_append hr hnE⟩, Below.grown (Below.refl _ _) hg hbase fun k hk => own_base hown k hk, hg⟩
    exact hrun
/-- An append at a step of a region that draws its order. -/
theorem step_append_run {ops : Array Oper} {o : Oper} {a : Act} {K : Act → World → Prop} {Q : Exit → Act → World → Prop} {E : Prop} {W : World} {F : Value → World → Prop} (hgd : o.guard = none) (s x : Operand) (t : TypeId)
    (ho : o.op = .call { callee := .builtin .append, args := #[s, x], argTypes := #[t, t] }) (vs vx : Value) (hs : a.eval s = vs) (hx : a.eval x = vx)
    (hex : ∃ v1 w1, (∀ ty, (Builtin.append_ #[t, t] ty #[vs, vx]).run Try.prog W = .ok v1 w1) ∧ F v1 w1) (h : ∀ v1 w1, F v1 w1 → K (a.put o.dst v1) w1) :
    if Region.wanted o (yielded ops a.tmps) = true then Oper.wp Try.prog o a W K Q else E := by
  have hw : Region.wanted o (yielded ops a.tmps) = true := by simp [Region.wanted, hgd]
  rw [if_pos hw]
  obtain ⟨v1, w1, hrun, hF⟩ := hex
  unfold Oper.wp execOp
  simp only [ho, resolve, invoke, builtin, Sem.run_bind, Sem.run_pure, Result.andThen_ok, List.map_toArray, List.map_cons, List.map_nil, hs, hx, hrun]
  exact h _ _ hF
/-- Slices of a row of numbers. -/
theorem slI_h (A : Option Addr) (n c : Nat) (hi : Nat) (h : hi ≤ c) (W : World) : (Instr.slice 44 (.slice A n c) none (some (.int .i64 (hi : Int))) none).run Try.prog W = .ok (.slice A hi c) W := by
  have hu : Try.prog.underlying 44 = some (.slice (Try.prog.elem 44)) := by rw [el44]; exact Try.underlying44
  rw [run_slice_h W 44 A n c hu .i64 hi (by omega) (by omega), el44]
  have hz : (sizeOf 3).run Try.prog W = .ok 1 W := by kernel_rfl
  rw [hz]
  simp [sliced, Result.andThen]
  try (intro h; cases A <;> simp [Addr.add])
theorem slI_l (A : Option Addr) (n c : Nat) (lo : Nat) (h : lo ≤ n) (_h2 : n ≤ c) (W : World) : (Instr.slice 44 (.slice A n c) (some (.int .i64 (lo : Int))) none none).run Try.prog W = .ok (.slice (if c = lo then A else A.map (·.add (lo * 1))) (n - lo) (c - lo)) W := by
  have hu : Try.prog.underlying 44 = some (.slice (Try.prog.elem 44)) := by rw [el44]; exact Try.underlying44
  rw [run_slice_l W 44 A n c hu .i64 lo (by omega) (by omega), el44]
  have hz : (sizeOf 3).run Try.prog W = .ok 1 W := by kernel_rfl
  rw [hz]
  simp [sliced, Result.andThen]

/-- A row of the reference's stretches, of the call's own. -/
def OwnR (w : World) (base : Nat) (v : Value) (xs : List S51) : Prop := OwnRow El 53 2 w base v xs
theorem OwnR.rd {w : World} {base : Nat} {v : Value} {xs : List S51} (h : OwnR w base v xs) : Rr w v xs := by
  obtain ⟨A, c, hv, hc, hr⟩ := OwnRow.reads h
  refine ⟨A, c, hv, hc, ?_⟩
  obtain ⟨h1, h2, h3⟩ := hr
  refine ⟨List.length_map _, h2, fun hn => ?_⟩
  obtain ⟨ad, e, hcc⟩ := h3 hn
  refine ⟨ad, e, fun j p hj => ?_⟩
  rw [List.getElem?_map, Option.map_eq_some_iff] at hj
  obtain ⟨x, hx, rfl⟩ := hj
  obtain ⟨cs, hs, hE, hcell⟩ := hcc j x hx
  have hE' : cs = [.int .i64 x.f0, .int .i64 x.f1] := hE
  subst hE'
  exact ⟨_, hs, k53_mk w (to53 x), hcell⟩
theorem OwnR.nil (w : World) (base : Nat) : OwnR w base (.slice none 0 0) [] := OwnRow.none_ _ _ _ _ _
theorem OwnR.below {w w1 : World} {base : Nat} {v : Value} {xs : List S51} (h : OwnR w base v xs) (hb : Below w.heap.size w w1) : OwnR w1 base v xs := by
  obtain ⟨i, h1, h2⟩ := h
  exact ⟨i, own_move h1 (fun k hk => hb.block k (own_lt h1 k hk)), h2⟩
theorem own_emptyR (w : World) : OwnR (w.alloc (.cells #[] 53)) w.heap.size (.slice (some ⟨w.heap.size, 0, none⟩) 0 0) [] :=
  ⟨[], ⟨rfl, .inr ⟨w.heap.size, 0, #[], rfl, Nat.le_refl _, heap_alloc_new w _, Nat.le_refl _, Nat.zero_le _, by simp, by simp⟩⟩, Reps.none _ _⟩
theorem el_of_53 {w : World} {x : S51} {cs : List Value} (h : k53.K w (to53 x) cs) : El x cs := k53_open h
/-- append(v, ys...) of the reference's stretches. -/
theorem app_ref (base : Nat) (v : Value) (xs ys : List S51) (A : Option Addr) (c : Nat) (W : World) (HO : OwnR W base v xs) (HR : Kd.C k53 W A ys.length (ys.map to53)) (hbase : base ≤ W.heap.size) (hl : xs.length + ys.length ≤ 1000000) :
    ∃ v1 w1, (∀ ty, (Builtin.append_ #[24, 24] ty #[v, .slice A ys.length c]).run Try.prog W = .ok v1 w1) ∧ OwnR w1 base v1 (xs ++ ys) ∧ Below base W w1 ∧ W.grownBy w1 v.ownBlock := by
  obtain ⟨i0, hi, hzz⟩ := Option.map_eq_some_iff.1 info53
  simp only [Prod.mk.injEq] at hzz
  obtain ⟨hz0, hz1, hz2⟩ := hzz
  obtain ⟨inner, hown, hr⟩ := HO
  rcases A with _ | ad
  · have h0 : ys.length = 0 := by
      rcases Nat.eq_zero_or_pos ys.length with h0 | h0
      · exact h0
      · obtain ⟨ad, h, _⟩ := HR.2.2 h0
        cases h
    obtain rfl : ys = [] := List.eq_nil_of_length_eq_zero h0
    refine ⟨v, W, fun ty => ?_, by rw [List.append_nil]; exact ⟨inner, hown, hr⟩, Below.refl _ _, World.grownBy.refl W _⟩
    rcases hown.2 with ⟨rfl, hn⟩ | ⟨g, cap, cur, rfl, _, _, hnc, _⟩
    · simp [Builtin.append_, run_underlying Try.underlying24, sizeOf, typeInfo, hi, Builtin.lenOf, Builtin.firstCells]
    · simp [Builtin.append_, run_underlying Try.underlying24, sizeOf, typeInfo, hi, Builtin.lenOf, Builtin.firstCells, hnc, storeCells]
  · obtain ⟨news, hnr, hnc⟩ := ReadsRow.inner_ HR
    have hnE : Reps El 2 ys news := by
      refine ⟨by rw [hnr.1, List.length_map]; rfl, fun j p hj => ?_⟩
      have := hnr.2 j (to53 p) (by rw [List.getElem?_map, hj]; rfl)
      exact el_of_53 this
    obtain ⟨v1, w1, hrun, ho, hg, _, hat⟩ := run_append_own_at (P := Try.prog) W base 24 24 53 i0 _ 2 16 Try.underlying24 hi hz0 hz1 hz2 rfl (by decide) v xs.length inner hown ad ys.length c news hnE.1 hnc (reps_one hnE)
      (by unfold maxLen; omega) (by omega) hbase
    refine ⟨v1, w1, fun ty => ?_, ⟨inner ++ news, by rw [List.length_append]; exact ho, Kd.reps_append hr hnE⟩, Below.grown (Below.refl _ _) hg hbase fun k hk => own_base hown k hk, hg⟩
    exact hrun
theorem one_rowR (w : World) (F T : Int) : Rr (w.alloc (.cells #[.int .i64 F, .int .i64 T] 53)) (.slice (some ⟨w.heap.size, 0, none⟩) 1 1) [⟨F, T⟩] := by
  refine ⟨_, _, rfl, Nat.le_refl _, rfl, by simp, fun _ => ⟨_, rfl, fun j p hj => ?_⟩⟩
  have h0 : j = 0 := by
    rcases j with _ | j
    · rfl
    · simp at hj
  subst h0
  simp at hj
  subst hj
  refine ⟨[.int .i64 F, .int .i64 T], rfl, k53_mk _ _, fun i u hu => ?_⟩
  have hnew : (w.alloc (.cells #[.int .i64 F, .int .i64 T] 53)).heap[w.heap.size]? = some (.cells #[.int .i64 F, .int .i64 T] 53 (0, 0)) := heap_alloc_new w _
  rcases i with _ | _ | i
  · simp at hu
    subst hu
    exact cell_of_row _ _ 0 _ _ _ hnew
  · simp at hu
    subst hu
    exact cell_of_row _ _ 1 _ _ _ hnew
  · simp at hu
end Go.Proofs.Ytgiccdjgbjgdcaa.Sp
