/- span.may, few, Add. -/
import Derived.Test.YtgiccdjgbjgdcaaCt
import Derived.StillTailTactics
namespace Go.Proofs.Ytgiccdjgbjgdcaa.Sp
open Go.RowKit Go.Proofs.YtgiccdjgbjgdcaaW.PrintWords PSpanTells

def mayE (xs : List S51) (f t : Int) : Int := if goodB xs = true then (if f < 0 then 1 else if t ≤ f then 1 else if t > 87659 then 1 else 0) else 11
theorem may_calls (A : Option Addr) (c : Nat) (xs : List S51) (f t : Int) (w : World) (hr : Kd.C k51 w A xs.length xs) (hc : xs.length ≤ c) :
    Calls Try.prog 27 #[.slice A xs.length c, .int .i64 f, .int .i64 t] w fun e w' => e = .returned (.int .i64 (mayE xs f t)) ∧ Below w.heap.size w w' := by
  obtain ⟨k, hk⟩ := good_eval xs
  refine span_may.calls k A c xs f t _ w hr hc ?_
  unfold span_may.f mayE
  rw [hk]
  simp only [Option.bind_some]
  cases goodB xs <;> simp
  split
  · rfl
  · split
    · rfl
    · split <;> rfl
/-- At most so many. -/
def fewL (l : List S51) : List S51 × Int := if 1000 < l.length then ([], 3) else (l, 0)
theorem few_calls (v : Value) (l : List S51) (w : World) (h : Rd w v l) :
    Calls Try.prog 29 #[v] w fun e w' => ∃ v', e = .returned (.tuple #[v', .int .i64 (fewL l).2]) ∧ Rd w' v' (fewL l).1 ∧ Below w.heap.size w w' := by
  obtain ⟨A, c, rfl, hc, hr⟩ := h
  have HR := Lib.hid (show Rd w (.slice A l.length c) l from ⟨A, c, rfl, hc, hr⟩)
  clear hr
  unfold fewL
  by_cases hl : 1000 < l.length
  · have h2 : (1000 : Int) < (l.length : Int) := by omega
    rw [if_pos hl]
    go_enter Try.func29, Try.ntmps29
    go_wp2_with fail
    go_ret2
    exact ⟨_, rfl, ⟨none, 0, rfl, Nat.le_refl _, Kd.C_nil k51 _⟩, Below.refl _ _⟩
  · have h2 : ¬ (1000 : Int) < (l.length : Int) := by omega
    rw [if_neg hl]
    go_enter Try.func29, Try.ntmps29
    go_wp2_with fail
    go_ret2
    exact ⟨_, rfl, HR.out, Below.refl _ _⟩

theorem Concat3 (W : World) (v0 v1 v2 : Value) (L0 L1 L2 : List S51) (h0 : Rd W v0 L0) (h1 : Rd W v1 L1) (h2 : Rd W v2 L2) (hl : L0.length + L1.length + L2.length ≤ 1000000) :
    Calls Try.prog 30 #[.slice (some ⟨W.heap.size, 0, none⟩) 3 3] (W.alloc (.cells #[v0, v1, v2] 22)) fun e w' => ∃ v, e = .returned v ∧ Rd w' v (L0 ++ (L1 ++ L2)) ∧ Below W.heap.size W w' := by
  have hb : Below W.heap.size W (W.alloc (.cells #[v0, v1, v2] 22)) := (Below.refl _ _).alloc (Nat.le_refl _) _
  have hnew : (W.alloc (.cells #[v0, v1, v2] 22)).heap[W.heap.size]? = some (.cells #[v0, v1, v2] 22 (0, 0)) := heap_alloc_new W _
  have hcell : ∀ j, (W.alloc (.cells #[v0, v1, v2] 22)).cell? ((⟨W.heap.size, 0, none⟩ : Addr).add j) = #[v0, v1, v2][j]? := by
    intro j
    have e : (⟨W.heap.size, 0, none⟩ : Addr).add j = ⟨W.heap.size, j, none⟩ := by
      unfold Addr.add
      by_cases hj : j = 0
      · simp [hj]
      · simp [hj]
    rw [e]
    exact cell_of_row _ _ j _ _ _ hnew
  have hlies : Lies (W.alloc (.cells #[v0, v1, v2] 22)) ⟨W.heap.size, 0, none⟩ [v0, v1, v2] [L0, L1, L2] := by
    refine ⟨rfl, fun j hj => ?_, fun j hj hj' => ?_⟩
    · rw [hcell j]
      simp at hj
      rcases (show j = 0 ∨ j = 1 ∨ j = 2 by omega) with rfl | rfl | rfl <;> rfl
    · simp at hj
      rcases (show j = 0 ∨ j = 1 ∨ j = 2 by omega) with rfl | rfl | rfl
      · exact h0.below hb
      · exact h1.below hb
      · exact h2.below hb
  have hf : [L0, L1, L2].flatten = L0 ++ (L1 ++ L2) := by simp
  have := Concat_calls ⟨W.heap.size, 0, none⟩ [v0, v1, v2] [L0, L1, L2] _ hlies (by simp) (by rw [hf, List.length_append, List.length_append]; omega)
  rw [hf] at this
  refine Calls.mono this ?_
  rintro e w1 ⟨v, rfl, ho, hb1⟩
  exact ⟨v, rfl, ho.rd, hb.trans (hb1.mono hb.size)⟩

/-- The days of the set that meet those that are added. -/
def midFrom (xs : List S51) (f : Int) : Int := xs.foldl (fun a x => min a x.f0) f
def midTo (xs : List S51) (t : Int) : Int := xs.foldl (fun a x => max a x.f1) t
def cutA (xs : List S51) (f : Int) : Nat := firstAt (fun x => decide (f ≤ x.f1)) xs
def cutB (xs : List S51) (f t : Int) : Nat := endAt t xs (cutA xs f)
def midL (xs : List S51) (f t : Int) : List S51 := (xs.take (cutB xs f t)).drop (cutA xs f)
def addL (xs : List S51) (f t : Int) : List S51 := xs.take (cutA xs f) ++ ([⟨midFrom (midL xs f t) f, midTo (midL xs f t) t⟩] ++ xs.drop (cutB xs f t))
def addF (xs : List S51) (f t : Int) : List S51 × Int := if mayE xs f t = 0 then fewL (addL xs f t) else ([], mayE xs f t)

theorem one_row (w : World) (F T : Int) : Rd (w.alloc (.cells #[.int .i64 F, .int .i64 T] 51)) (.slice (some ⟨w.heap.size, 0, none⟩) 1 1) [⟨F, T⟩] := by
  refine ⟨_, _, rfl, Nat.le_refl _, rfl, by simp, fun _ => ⟨_, rfl, fun j p hj => ?_⟩⟩
  have h0 : j = 0 := by
    rcases j with _ | j
    · rfl
    · simp at hj
  subst h0
  simp at hj
  subst hj
  refine ⟨[.int .i64 F, .int .i64 T], rfl, k51_mk _ _, fun i u hu => ?_⟩
  have hnew : (w.alloc (.cells #[.int .i64 F, .int .i64 T] 51)).heap[w.heap.size]? = some (.cells #[.int .i64 F, .int .i64 T] 51 (0, 0)) := heap_alloc_new w _
  have e : (⟨w.heap.size, 0, none⟩ : Addr).add (0 * k51.sz + i) = ⟨w.heap.size, i, none⟩ := by
    unfold Addr.add
    by_cases hj : i = 0
    · simp [hj]
    · simp [hj]
  rw [e, cell_of_row _ _ i _ _ _ hnew]
  rcases i with _ | _ | i
  · exact hu
  · exact hu
  · simp at hu
set_option maxHeartbeats 1000000 in
theorem Add_calls (A : Option Addr) (c : Nat) (xs : List S51) (f t : Int) (w : World) (hr : Kd.C k51 w A xs.length xs) (hc : xs.length ≤ c) :
    Calls Try.prog 17 #[.slice A xs.length c, .int .i64 f, .int .i64 t] w fun e w' => ∃ v, e = .returned (.tuple #[v, .int .i64 (addF xs f t).2]) ∧ Rd w' v (addF xs f t).1 ∧ Below w.heap.size w w' := by
  have HM := Lib.hid (may_calls A c xs f t w hr hc)
  unfold addF
  by_cases h0 : mayE xs f t = 0
  · rw [if_pos h0]
    have hg : goodB xs = true := by
      unfold mayE at h0
      cases hgg : goodB xs with
      | true => rfl
      | false => rw [hgg] at h0; simp at h0
    have hlen : xs.length ≤ 1000 := by
      simp only [goodB, Bool.and_eq_true, decide_eq_true_eq] at hg
      exact hg.1
    have H0 := Lib.hid h0
    have HR := Lib.hid hr
    clear h0 hr hg
    go_enter Try.func17, Try.ntmps17
    go_wp2_with fail
    refine HM.out.mono ?_
    rw [H0.out]
    rintro e w1 ⟨rfl, b1⟩
    have HP := Lib.hid (parts_calls A c xs f t w1 (Kd.C_below HR.out b1) hc hlen (cutA xs f) (cutB xs f t) rfl rfl)
    have HB1 := Lib.hid b1
    clear b1 HM H0
    go_wp2_with fail
    refine HP.out.mono ?_
    rintro e w2 ⟨v0, v1, v2, rfl, r0, r1, r2, b2⟩
    have HB2 := Lib.hid (HB1.out.trans (b2.mono HB1.out.size))
    clear b2 HP HB1
    obtain ⟨A1, c1, rfl, hc1, r1⟩ := r1
    obtain ⟨L0, hL0⟩ : ∃ L, xs.take (cutA xs f) = L := ⟨_, rfl⟩
    obtain ⟨L2, hL2⟩ : ∃ L, xs.drop (cutB xs f t) = L := ⟨_, rfl⟩
    have hl0 : L0.length ≤ 1000 := by rw [← hL0, List.length_take]; omega
    have hl2 : L2.length ≤ 1000 := by rw [← hL2, List.length_drop]; omega
    rw [hL0] at r0
    rw [hL2] at r2
    have HL0 := Lib.hid hL0
    have HL2 := Lib.hid hL2
    clear hL0 hL2
    have hr0 := r0
    have hr2 := r2
    obtain ⟨A0, k0, rfl, _⟩ := hr0
    obtain ⟨A2, k2, rfl, _⟩ := hr2
    have H_0 := Lib.hid r0
    have H_1 := Lib.hid r1
    have H_2 := Lib.hid r2
    clear r0 r1 r2
    obtain ⟨ms, hms⟩ : ∃ ms, midL xs f t = ms := ⟨_, rfl⟩
    have e1 : (xs.take (cutB xs f t)).drop (cutA xs f) = ms := hms
    rw [e1] at H_1 hc1 ⊢
    have Hms := Lib.hid hms
    have hml : ms.length ≤ 1000 := by rw [← e1, List.length_drop, List.length_take]; omega
    clear e1 hms
    go_wp2_with fail
    go_loopw [31, 1, 2] (fun i f1 t1 wr => ∃ k : Nat, k ≤ ms.length ∧ i = .int .i64 k ∧ f1 = .int .i64 (midFrom (ms.take k) f) ∧ t1 = .int .i64 (midTo (ms.take k) t) ∧ Below w.heap.size w wr ∧ Below w2.heap.size w2 wr) (fun i _ _ _ => ms.length - (intOf i).toNat)
    case atStart => exact ⟨0, Nat.zero_le _, rfl, rfl, rfl, HB2.out, Below.refl _ _⟩
    case round =>
      obtain ⟨k, hk, rfl, rfl, rfl, hb, hb2⟩ := hrel
      clear HB2
      by_cases hlt : k < ms.length
      · obtain ⟨ad, rfl, c0, c1'⟩ := at_T51 (Kd.C_below H_1.out hb2) (k : Int) (by omega) (by omega)
        rw [rd_get ms k hlt, Int.toNat_natCast] at c0 c1'
        obtain ⟨x, hx⟩ : ∃ x, ms[k] = x := ⟨_, rfl⟩
        rw [hx] at c0 c1'
        have et : ms.take (k + 1) = ms.take k ++ [x] := by rw [List.take_succ_eq_append_getElem hlt, hx]
        have ef : midFrom (ms.take (k + 1)) f = min (midFrom (ms.take k) f) x.f0 := by rw [et]; simp [midFrom]
        have eg : midTo (ms.take (k + 1)) t = max (midTo (ms.take k) t) x.f1 := by rw [et]; simp [midTo]
        have ef2 : (if x.f0 < midFrom (ms.take k) f then x.f0 else midFrom (ms.take k) f) = midFrom (ms.take (k + 1)) f := by rw [ef, Int.min_def]; split <;> split <;> omega
        have eg2 : (if midTo (ms.take k) t < x.f1 then x.f1 else midTo (ms.take k) t) = midTo (ms.take (k + 1)) t := by rw [eg, Int.max_def]; split <;> split <;> omega
        obtain ⟨F, hF⟩ : ∃ F, midFrom (ms.take (k + 1)) f = F := ⟨_, rfl⟩
        obtain ⟨T, hT⟩ : ∃ T, midTo (ms.take (k + 1)) t = T := ⟨_, rfl⟩
        rw [hF] at ef2
        rw [hT] at eg2
        have HF := Lib.hid hF
        have HT := Lib.hid hT
        have hbd : Below w.heap.size w (wr.alloc (.cells #[.int .i64 x.f0, .int .i64 x.f1] 51)).drew := (hb.alloc hb.size _).drew
        have hbd2 : Below w2.heap.size w2 (wr.alloc (.cells #[.int .i64 x.f0, .int .i64 x.f1] 51)).drew := (hb2.alloc hb2.size _).drew
        have HB := Lib.hid hbd
        have HB2 := Lib.hid hbd2
        clear ef eg et hx hb hb2 hF hT hbd hbd2
        generalize midFrom (ms.take k) f = f1 at ef2 ⊢
        generalize midTo (ms.take k) t = t1 at eg2 ⊢
        have Ef2 := Lib.hid ef2
        have Eg2 := Lib.hid eg2
        clear ef2 eg2
        go_wp2_with fail
        go_region
        all_goals
          rw [Ef2.out, Eg2.out]
          go_wp2_with fail
          go_roundw
          case rel => exact ⟨k + 1, by omega, by go_num, by rw [HF.out], by rw [HT.out], HB.out, HB2.out⟩
          case measure => simp [intOf]; omega
      · obtain rfl : k = ms.length := by omega
        rw [List.take_length]
        have HB := Lib.hid hb
        have HB2 := Lib.hid hb2
        clear hb hb2
        obtain ⟨F, hF⟩ : ∃ F, midFrom ms f = F := ⟨_, rfl⟩
        obtain ⟨T, hT⟩ : ∃ T, midTo ms t = T := ⟨_, rfl⟩
        rw [hF, hT]
        have HF := Lib.hid hF
        have HT := Lib.hid hT
        clear hF hT
        have hone : Rd (wr.alloc (.cells #[.int .i64 F, .int .i64 T] 51)) (.slice (some ⟨wr.heap.size, 0, none⟩) 1 1) [⟨F, T⟩] := one_row wr F T
        have hba : Below w2.heap.size w2 (wr.alloc (.cells #[.int .i64 F, .int .i64 T] 51)) := HB2.out.alloc HB2.out.size _
        have hbw : Below w.heap.size w (wr.alloc (.cells #[.int .i64 F, .int .i64 T] 51)) := HB.out.alloc HB.out.size _
        have hc3 := Concat3 _ _ _ _ _ _ _ (H_0.out.below hba) hone (H_2.out.below hba) (by simp only [List.length_cons, List.length_nil]; omega)
        rw [show (wr.alloc (.cells #[.int .i64 F, .int .i64 T] 51)).heap.size = wr.heap.size + 1 from by simp] at hc3
        have HC := Lib.hid hc3
        have hws : w.heap.size ≤ wr.heap.size + 1 := Nat.le_succ_of_le HB.out.size
        have HBw := Lib.hid hbw
        clear hone hba hbw hc3 HB HB2
        go_wp2_with fail
        refine HC.out.mono ?_
        rintro e w3 ⟨v3, rfl, r3, b3⟩
        have HF3 := Lib.hid (few_calls v3 _ w3 r3)
        have HB3 := Lib.hid (HBw.out.trans (b3.mono hws))
        clear r3 b3 HC HBw
        go_wp2_with fail
        refine HF3.out.mono ?_
        rintro e w4 ⟨v4, rfl, r4, b4⟩
        have hadd : L0 ++ ([⟨F, T⟩] ++ L2) = addL xs f t := by
          unfold addL
          rw [Hms.out, HF.out, HT.out, HL0.out, HL2.out]
        rw [hadd] at r4 ⊢
        have HR4 := Lib.hid r4
        have HB4 := Lib.hid (HB3.out.trans (b4.mono HB3.out.size))
        clear r4 b4 HF3 HB3 hadd
        obtain ⟨er, her⟩ : ∃ er, (fewL (addL xs f t)).2 = er := ⟨_, rfl⟩
        rw [her]
        have Her := Lib.hid her
        clear her
        go_wp2_with fail
        go_ret2
        exact ⟨v4, by rw [Her.out]; rfl, HR4.out, HB4.out⟩
  · rw [if_neg h0]
    have H0 := Lib.hid h0
    have hb : (mayE xs f t != 0) = true := by simpa using h0
    clear h0 hr
    obtain ⟨m, hm⟩ : ∃ m, mayE xs f t = m := ⟨_, rfl⟩
    rw [hm] at hb ⊢
    have Hm := Lib.hid hm
    clear hm
    go_enter Try.func17, Try.ntmps17
    go_wp2_with fail
    refine HM.out.mono ?_
    rw [Hm.out]
    rintro e w1 ⟨rfl, b1⟩
    have HB1 := Lib.hid b1
    clear b1 HM H0
    go_wp2_with fail
    go_ret2
    exact ⟨_, rfl, ⟨none, 0, rfl, Nat.le_refl _, Kd.C_nil k51 _⟩, HB1.out⟩
end Go.Proofs.Ytgiccdjgbjgdcaa.Sp
