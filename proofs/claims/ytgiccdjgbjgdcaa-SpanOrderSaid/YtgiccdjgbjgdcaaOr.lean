/- Rows of pairs of short numbers. -/
import Derived.Test.YtgiccdjgbjgdcaaPo
import Derived.Test.YtgiccdjgbjgdcaaMo
import Derived.Test.YtgiccdjgbjgdcaaRi
import Derived.Laws.OwnMore
namespace Go.Proofs.Ytgiccdjgbjgdcaa.Sp
open Go.RowKit Go.Proofs.YtgiccdjgbjgdcaaW.PrintWords PSpanTells

theorem wrapk (q n : Nat) (h : q < n) (hn : n ≤ 100000) : IntKind.i64.wrap (q : Int) = (q : Int) := by rw [IntKind.wrap_i64]; omega
theorem ne_len (n : Nat) (h : 0 < n) : ((n : Int) == 0) = false := by simp; omega
def ElP (p : Int × Int) (cs : List Value) : Prop := cs = [.int .u16 p.1, .int .u16 p.2]
def OwnP (w : World) (base : Nat) (v : Value) (K : List (Int × Int)) : Prop := OwnRow ElP 48 2 w base v K
def Rp (w : World) (v : Value) (K : List (Int × Int)) : Prop := ∃ A c, v = .slice A K.length c ∧ K.length ≤ c ∧ ReadsRow ElP 2 w A K.length K
theorem Rp.below {w w1 : World} {v : Value} {K : List (Int × Int)} (h : Rp w v K) (hb : Below w.heap.size w w1) : Rp w1 v K := by
  obtain ⟨A, c, h1, h2, h3⟩ := h
  exact ⟨A, c, h1, h2, h3.imp_ hb fun _ _ h => h⟩
theorem OwnP.rd {w : World} {base : Nat} {v : Value} {K : List (Int × Int)} (h : OwnP w base v K) : Rp w v K := OwnRow.reads h
theorem OwnP.below {w w1 : World} {base : Nat} {v : Value} {K : List (Int × Int)} (h : OwnP w base v K) (hb : Below w.heap.size w w1) : OwnP w1 base v K := by
  obtain ⟨i, h1, h2⟩ := h
  exact ⟨i, own_move h1 (fun k hk => hb.block k (own_lt h1 k hk)), h2⟩
theorem own_emptyP (w : World) : OwnP (w.alloc (.cells #[] 48)) w.heap.size (.slice (some ⟨w.heap.size, 0, none⟩) 0 0) [] :=
  ⟨[], ⟨rfl, .inr ⟨w.heap.size, 0, #[], rfl, Nat.le_refl _, heap_alloc_new w _, Nat.le_refl _, Nat.zero_le _, by simp, by simp⟩⟩, Reps.none _ _⟩
theorem info48k : (Try.prog.info? 48).map (fun i => (i.zero, i.size, i.bytes)) = some (some (.agg #[(.int .u16 0), (.int .u16 0)]), 2, 4) := by kernel_rfl
theorem at_P {w : World} {A : Option Addr} {K : List (Int × Int)} (h : ReadsRow ElP 2 w A K.length K) (i : Nat) (hi : i < K.length) :
    ∃ ad, A = some ad ∧ w.cell? (ad.add (i * 2)) = some (.int .u16 K[i].1) ∧ w.cell? ⟨(ad.add (i * 2)).block, (ad.add (i * 2)).off + 1, none⟩ = some (.int .u16 K[i].2) := by
  obtain ⟨ad, rfl, hc⟩ := h.2.2 (by omega)
  obtain ⟨c, _, hk, hcell⟩ := hc i _ (List.getElem?_eq_getElem hi)
  have hk' : c = [.int .u16 K[i].1, .int .u16 K[i].2] := hk
  subst hk'
  refine ⟨ad, rfl, ?_, ?_⟩
  · have := hcell 0 _ rfl
    simpa using this
  · have := hcell 1 _ rfl
    have e : ad.add (i * 2 + 1) = ⟨(ad.add (i * 2)).block, (ad.add (i * 2)).off + 1, none⟩ := by
      unfold Addr.add
      by_cases h0 : i * 2 = 0
      · simp [h0]
      · simp [h0]; omega
    rw [← e]
    exact this
theorem app_pair (base : Nat) (v : Value) (xs ys : List (Int × Int)) (A : Option Addr) (c : Nat) (W : World) (HO : OwnP W base v xs) (HR : ReadsRow ElP 2 W A ys.length ys) (hbase : base ≤ W.heap.size) (hl : xs.length + ys.length ≤ 1000000) :
    ∃ v1 w1, (∀ ty, (Builtin.append_ #[46, 46] ty #[v, .slice A ys.length c]).run Try.prog W = .ok v1 w1) ∧ OwnP w1 base v1 (xs ++ ys) ∧ Below base W w1 := by
  obtain ⟨i0, hi, hzz⟩ := Option.map_eq_some_iff.1 info48k
  simp only [Prod.mk.injEq] at hzz
  obtain ⟨hz0, hz1, hz2⟩ := hzz
  obtain ⟨inner, hown, hr⟩ := HO
  rcases A with _ | ad
  · have h0 : ys.length = 0 := by
      rcases Nat.eq_zero_or_pos ys.length with h0 | h0
      · exact h0
      · obtain ⟨ad, h, _⟩ := HR.2.2 h0
        cases h
    obtain rfl : ys = [] := List.eq_nil_of_length_eq_zero h0
    refine ⟨v, W, fun ty => ?_, by rw [List.append_nil]; exact ⟨inner, hown, hr⟩, Below.refl _ _⟩
    rcases hown.2 with ⟨rfl, hn⟩ | ⟨g, cap, cur, rfl, _, _, hnc, _⟩
    · simp [Builtin.append_, run_underlying Try.underlying46, sizeOf, typeInfo, hi, Builtin.lenOf, Builtin.firstCells]
    · simp [Builtin.append_, run_underlying Try.underlying46, sizeOf, typeInfo, hi, Builtin.lenOf, Builtin.firstCells, hnc, storeCells]
  · obtain ⟨news, hnr, hnc⟩ := ReadsRow.inner_ HR
    have h1 : ∀ u ∈ news, u.oneCell' = true := by
      intro u hu
      obtain ⟨q, hq, rfl⟩ := List.mem_iff_getElem.1 hu
      have hlen := hnr.1
      have hql : q / 2 < ys.length := by omega
      have hc : (news.drop (q / 2 * 2)).take 2 = [.int .u16 ys[q / 2].1, .int .u16 ys[q / 2].2] := hnr.2 (q / 2) _ (List.getElem?_eq_getElem hql)
      have hm : news[q] ∈ (news.drop (q / 2 * 2)).take 2 := by
        rw [List.mem_iff_getElem?]
        refine ⟨q % 2, ?_⟩
        rw [List.getElem?_take, if_pos (by omega), List.getElem?_drop, show q / 2 * 2 + q % 2 = q by omega, List.getElem?_eq_getElem hq]
      rw [hc] at hm
      simp at hm
      rcases hm with hm | hm <;> rw [hm] <;> rfl
    obtain ⟨v1, w1, hrun, ho, hg, _, hat⟩ := run_append_own_at (P := Try.prog) W base 46 46 48 i0 _ 2 4 Try.underlying46 hi hz0 hz1 hz2 rfl (by decide) v xs.length inner hown ad ys.length c news hnr.1 hnc h1
      (by unfold maxLen; omega) (by omega) hbase
    refine ⟨v1, w1, fun ty => ?_, ⟨inner ++ news, by rw [List.length_append]; exact ho, Kd.reps_append hr hnr⟩, Below.grown (Below.refl _ _) hg hbase fun k hk => own_base hown k hk⟩
    exact hrun
/-- An own row with an element: where it lies. -/
theorem own_formP {w : World} {base : Nat} {v : Value} {K : List (Int × Int)} (h : OwnP w base v K) (hn : 0 < K.length) : ∃ g cap, v = .slice (some ⟨g, 0, none⟩) K.length cap ∧ base ≤ g := by
  obtain ⟨inner, ho, _⟩ := h
  rcases ho.2 with ⟨_, h0⟩ | ⟨g, cap, cur, rfl, hb, _⟩
  · omega
  · exact ⟨g, cap, rfl, hb⟩
theorem own_cellP {w : World} {base g cap : Nat} {K : List (Int × Int)} (h : OwnP w base (.slice (some ⟨g, 0, none⟩) K.length cap) K) (i : Nat) (hi : i < K.length) :
    w.cell? ⟨g, i * 2, none⟩ = some (.int .u16 K[i].1) ∧ w.cell? ⟨g, i * 2 + 1, none⟩ = some (.int .u16 K[i].2) ∧ w.frozen? ⟨g, i * 2, none⟩ = false ∧ w.frozen? ⟨g, i * 2 + 1, none⟩ = false := by
  obtain ⟨inner, ho, hr⟩ := h
  have hil : inner.length = K.length * 2 := ho.1
  have hz : (inner.drop (i * 2)).take 2 = [.int .u16 K[i].1, .int .u16 K[i].2] := hr.2 i _ (List.getElem?_eq_getElem hi)
  have e0 : inner[i * 2]? = some (.int .u16 K[i].1) := by
    have : ((inner.drop (i * 2)).take 2)[0]? = some (.int .u16 K[i].1) := by rw [hz]; rfl
    rw [List.getElem?_take, if_pos (by omega), List.getElem?_drop] at this
    exact this
  have e1 : inner[i * 2 + 1]? = some (.int .u16 K[i].2) := by
    have : ((inner.drop (i * 2)).take 2)[1]? = some (.int .u16 K[i].2) := by rw [hz]; rfl
    rw [List.getElem?_take, if_pos (by omega), List.getElem?_drop] at this
    exact this
  refine ⟨?_, ?_, World.ownsRow.frozenAt ho _, World.ownsRow.frozenAt ho _⟩
  · rw [World.ownsRow.cellAt ho _ (by omega)]; exact e0
  · rw [World.ownsRow.cellAt ho _ (by omega)]; exact e1
/-- An element written. -/
theorem own_setP {w : World} {base g cap : Nat} {K : List (Int × Int)} (h : OwnP w base (.slice (some ⟨g, 0, none⟩) K.length cap) K) (i : Nat) (hi : i < K.length) (p : Int × Int) :
    OwnP ((w.setCell ⟨g, i * 2, none⟩ (.int .u16 p.1)).setCell ⟨g, i * 2 + 1, none⟩ (.int .u16 p.2)) base (.slice (some ⟨g, 0, none⟩) (K.set i p).length cap) (K.set i p) := by
  obtain ⟨inner, ho, hr⟩ := h
  have hil : inner.length = K.length * 2 := ho.1
  have h1 := (World.ownsRow.stored ho (i * 2) (.int .u16 p.1)).1
  have h2 := (World.ownsRow.stored h1 (i * 2 + 1) (.int .u16 p.2)).1
  refine ⟨_, by rw [List.length_set]; exact h2, by rw [List.length_set, List.length_set, List.length_set, hil], fun j q hj => ?_⟩
  show (List.take 2 (List.drop (j * 2) ((inner.set (i * 2) (.int .u16 p.1)).set (i * 2 + 1) (.int .u16 p.2)))) = _
  have hjl := (List.getElem?_eq_some_iff.1 hj).1
  rw [List.length_set] at hjl
  by_cases hji : j = i
  · subst hji
    rw [List.getElem?_set_self hi] at hj
    injection hj with hj
    subst hj
    apply List.ext_getElem?
    intro m
    rw [List.getElem?_take]
    rcases m with _ | _ | m
    · rw [if_pos (by omega), List.getElem?_drop, List.getElem?_set_ne (by omega)]
      show (inner.set (j * 2) (.int .u16 p.1))[j * 2]? = _
      rw [List.getElem?_set_self (by omega)]
      rfl
    · rw [if_pos (by omega), List.getElem?_drop, List.getElem?_set_self (by simp; omega)]
      rfl
    · rw [if_neg (by omega)]
      rfl
  · rw [List.getElem?_set_ne (fun e => hji e.symm)] at hj
    have e : List.take 2 (List.drop (j * 2) inner) = [.int .u16 q.1, .int .u16 q.2] := hr.2 j q hj
    rw [← e]
    apply List.ext_getElem?
    intro m
    rw [List.getElem?_take, List.getElem?_take]
    split
    · rw [List.getElem?_drop, List.getElem?_drop, List.getElem?_set_ne (by omega), List.getElem?_set_ne (by omega)]
    · rfl
theorem add_zero_offP (g n : Nat) : (⟨g, 0, none⟩ : Addr).add n = ⟨g, n, none⟩ := by
  unfold Addr.add
  split <;> simp_all
theorem below_setP {w0 w : World} {base g : Nat} (hB : Below base w0 w) (hg : base ≤ g) (i j : Nat) (u u' : Value) : Below base w0 ((w.setCell ⟨g, i, none⟩ u).setCell ⟨g, j, none⟩ u') := by
  have h1 : ∀ (W : World) (i : Nat) (u : Value), Below base W (W.setCell ⟨g, i, none⟩ u) := fun W i u =>
    ⟨rfl, rfl, rfl, by simp, fun k hk => Below.heap_setCell W ⟨g, i, none⟩ u k (by show k ≠ g; omega)⟩
  exact (hB.trans (h1 _ _ _)).trans (h1 _ _ _)
end Go.Proofs.Ytgiccdjgbjgdcaa.Sp
