/- span.Cut. -/
import Derived.Test.YtgiccdjgbjgdcaaAd
namespace Go.Proofs.Ytgiccdjgbjgdcaa.Sp
open Go.RowKit Go.Proofs.YtgiccdjgbjgdcaaW.PrintWords PSpanTells

/-- append(l, Span{F, T}). -/
theorem app_one (base : Nat) (v : Value) (xs : List S51) (F T : Int) (W : World) (HO : Own W base v xs) (hbase : base ≤ W.heap.size) (hl : xs.length ≤ 100000) :
    ∃ v1 w1, (∀ ty, (Builtin.append_ #[22, 22] ty #[v, .slice (some ⟨W.heap.size, 0, none⟩) 1 1]).run Try.prog (W.alloc (.cells #[.int .i64 F, .int .i64 T] 51)) = .ok v1 w1) ∧ Own w1 base v1 (xs ++ [⟨F, T⟩]) ∧ Below base W w1 ∧
      ∀ k, k < W.heap.size → v.ownBlock ≠ some k → w1.heap[k]? = W.heap[k]? := by
  have hb : Below W.heap.size W (W.alloc (.cells #[.int .i64 F, .int .i64 T] 51)) := (Below.refl _ _).alloc (Nat.le_refl _) _
  obtain ⟨A, c, hv, _, hr⟩ := one_row W F T
  injection hv with hA hn hc
  subst hA hc
  obtain ⟨v1, w1, h1, h2, h3, h4⟩ := app_rows base v xs [⟨F, T⟩] _ 1 _ (HO.below hb) hr (Nat.le_trans hbase hb.size) (by simp; omega)
  exact ⟨v1, w1, h1, h2, (hb.mono hbase).trans h3, fun k hk hne => (h4.block k (Nat.lt_of_lt_of_le hk hb.size) (fun e => hne e.symm)).trans (hb.block k hk)⟩

def cutStep (f t : Int) (x : S51) : List S51 := (if x.f0 < f then [⟨x.f0, if f < x.f1 then f else x.f1⟩] else []) ++ (if t < x.f1 then [⟨if x.f0 < t then t else x.f0, x.f1⟩] else [])
def cutM (f t : Int) (ms : List S51) : List S51 := ms.flatMap (cutStep f t)
theorem cutM_snoc (f t : Int) (ms : List S51) (x : S51) : cutM f t (ms ++ [x]) = cutM f t ms ++ cutStep f t x := by simp [cutM]
theorem cutM_len (f t : Int) (ms : List S51) : (cutM f t ms).length ≤ 2 * ms.length := by
  induction ms with
  | nil => simp [cutM]
  | cons x ms ih =>
    have : cutM f t (x :: ms) = cutStep f t x ++ cutM f t ms := rfl
    rw [this, List.length_append, List.length_cons]
    have : (cutStep f t x).length ≤ 2 := by by_cases h1 : x.f0 < f <;> by_cases h2 : t < x.f1 <;> simp [cutStep, h1, h2]
    omega
def cutL (xs : List S51) (f t : Int) : List S51 := xs.take (cutA xs f) ++ (cutM f t (midL xs f t) ++ xs.drop (cutB xs f t))
def cutF (xs : List S51) (f t : Int) : List S51 × Int := if mayE xs f t = 0 then fewL (cutL xs f t) else ([], mayE xs f t)

set_option maxHeartbeats 2000000 in
theorem Cut_calls (A : Option Addr) (c : Nat) (xs : List S51) (f t : Int) (w : World) (hr : Kd.C k51 w A xs.length xs) (hc : xs.length ≤ c) :
    Calls Try.prog 19 #[.slice A xs.length c, .int .i64 f, .int .i64 t] w fun e w' => ∃ v, e = .returned (.tuple #[v, .int .i64 (cutF xs f t).2]) ∧ Rd w' v (cutF xs f t).1 ∧ Below w.heap.size w w' := by
  have HM := Lib.hid (may_calls A c xs f t w hr hc)
  unfold cutF
  by_cases h0 : mayE xs f t = 0
  · rw [if_pos h0]
    have hg : goodB xs = true := by
      unfold mayE at h0
      cases hgg : goodB xs with
      | true => rfl
      | false => rw [hgg] at h0; simp at h0
    have hlen : xs.length ≤ 1000 := by
      simp only [goodB, Bool.and_eq_true, decide_eq_true_eq] at hg
      exact hg.1
    have H0 := Lib.hid h0
    have HR := Lib.hid hr
    clear h0 hr hg
    go_enter Try.func19, Try.ntmps19
    go_wp2_with fail
    refine HM.out.mono ?_
    rw [H0.out]
    rintro e w1 ⟨rfl, b1⟩
    have HP := Lib.hid (parts_calls A c xs f t w1 (Kd.C_below HR.out b1) hc hlen (cutA xs f) (cutB xs f t) rfl rfl)
    have HB1 := Lib.hid b1
    clear b1 HM H0
    go_wp2_with fail
    refine HP.out.mono ?_
    rintro e w2 ⟨v0, v1, v2, rfl, r0, r1, r2, b2⟩
    have HB2 := Lib.hid (HB1.out.trans (b2.mono HB1.out.size))
    clear b2 HP HB1
    obtain ⟨A1, c1, rfl, hc1, r1⟩ := r1
    obtain ⟨L0, hL0⟩ : ∃ L, xs.take (cutA xs f) = L := ⟨_, rfl⟩
    obtain ⟨L2, hL2⟩ : ∃ L, xs.drop (cutB xs f t) = L := ⟨_, rfl⟩
    have hl0 : L0.length ≤ 1000 := by rw [← hL0, List.length_take]; omega
    have hl2 : L2.length ≤ 1000 := by rw [← hL2, List.length_drop]; omega
    rw [hL0] at r0
    rw [hL2] at r2
    have HL0 := Lib.hid hL0
    have HL2 := Lib.hid hL2
    clear hL0 hL2
    have hr0 := r0
    have hr2 := r2
    obtain ⟨A0, k0, rfl, _⟩ := hr0
    obtain ⟨A2, k2, rfl, _⟩ := hr2
    have H_0 := Lib.hid r0
    have H_1 := Lib.hid r1
    have H_2 := Lib.hid r2
    clear r0 r1 r2
    obtain ⟨ms, hms⟩ : ∃ ms, midL xs f t = ms := ⟨_, rfl⟩
    have e1 : (xs.take (cutB xs f t)).drop (cutA xs f) = ms := hms
    rw [e1] at H_1 hc1 ⊢
    have Hms := Lib.hid hms
    have hml : ms.length ≤ 1000 := by rw [← e1, List.length_drop, List.length_take]; omega
    clear e1 hms
    have HOwn0 := Lib.hid (Own.nil w2 w2.heap.size)
    go_wp2_with fail
    go_loopw [32, 12] (fun i v wr => ∃ (k : Nat) (vv : Value), k ≤ ms.length ∧ i = .int .i64 k ∧ v = vv ∧ Own wr w2.heap.size vv (cutM f t (ms.take k)) ∧ Below w2.heap.size w2 wr) (fun i _ _ => ms.length - (intOf i).toNat)
    case atStart => exact ⟨0, _, Nat.zero_le _, rfl, rfl, HOwn0.out, Below.refl _ _⟩
    case round =>
      obtain ⟨k, vv, hk, rfl, hvv, ho, hb2⟩ := hrel
      have hvv2 := hvv.symm
      clear hvv
      subst hvv2
      clear HOwn0
      by_cases hlt : k < ms.length
      · obtain ⟨ad, rfl, c0, c1'⟩ := at_T51 (Kd.C_below H_1.out hb2) (k : Int) (by omega) (by omega)
        rw [rd_get ms k hlt, Int.toNat_natCast] at c0 c1'
        obtain ⟨x, hx⟩ : ∃ x, ms[k] = x := ⟨_, rfl⟩
        rw [hx] at c0 c1'
        have et : ms.take (k + 1) = ms.take k ++ [x] := by rw [List.take_succ_eq_append_getElem hlt, hx]
        have ec := cutM_snoc f t (ms.take k) x
        rw [← et] at ec
        have hll : (cutM f t (ms.take k)).length ≤ 2000 := by
          have := cutM_len f t (ms.take k)
          rw [List.length_take] at this
          omega
        obtain ⟨L, hL⟩ : ∃ L, cutM f t (ms.take k) = L := ⟨_, rfl⟩
        rw [hL] at ec ho hll
        clear hL et hx
        have hba : Below wr.heap.size wr (wr.alloc (.cells #[.int .i64 x.f0, .int .i64 x.f1] 51)) := (Below.refl _ _).alloc (Nat.le_refl _) _
        have ho1 := ho.below hba
        have hb3 := hb2.trans (hba.mono hb2.size)
        have hsz : (wr.alloc (.cells #[.int .i64 x.f0, .int .i64 x.f1] 51)).heap.size = wr.heap.size + 1 := by simp
        have hnew : (wr.alloc (.cells #[.int .i64 x.f0, .int .i64 x.f1] 51)).heap[wr.heap.size]? = some (.cells #[.int .i64 x.f0, .int .i64 x.f1] 51 (0, 0)) := heap_alloc_new wr _
        have hne : vv.ownBlock ≠ some wr.heap.size := fun e => by
          obtain ⟨i, h1, _⟩ := ho
          exact Nat.lt_irrefl _ (own_lt h1 _ e)
        have hstep : cutStep f t x = (if x.f0 < f then [⟨x.f0, if f < x.f1 then f else x.f1⟩] else []) ++ (if t < x.f1 then [⟨if x.f0 < t then t else x.f0, x.f1⟩] else []) := rfl
        rw [hstep] at ec
        have HB2 := Lib.hid hb2
        have HB3 := Lib.hid hb3
        clear hstep hb2
        by_cases h1 : x.f0 < f
        · rw [if_pos h1] at ec
          obtain ⟨v1, w3, q1, q2, q3, q4⟩ := app_one _ vv L x.f0 (if f < x.f1 then f else x.f1) _ ho1 hb3.size (by omega)
          rw [hsz] at q1
          have d := (q4 wr.heap.size (by rw [hsz]; omega) hne).trans hnew
          have d0 : w3.cell? ⟨wr.heap.size, 0, none⟩ = some (.int .i64 x.f0) := cell_of_row w3 _ 0 _ _ _ d
          have d1 : w3.cell? ⟨wr.heap.size, 1, none⟩ = some (.int .i64 x.f1) := cell_of_row w3 _ 1 _ _ _ d
          have HR1 := Lib.hid q1
          have HB4 := Lib.hid (hb3.trans q3)
          by_cases h2 : t < x.f1
          · rw [if_pos h2, ← List.append_assoc] at ec
            obtain ⟨v2, w4, p1, p2, p3, _⟩ := app_one _ v1 _ (if x.f0 < t then t else x.f0) x.f1 w3 q2 (hb3.trans q3).size (by rw [List.length_append]; simp; omega)
            rw [← ec] at p2
            have HR2 := Lib.hid p1
            have HO2 := Lib.hid p2
            have HB5 := Lib.hid (HB4.out.trans p3)
            clear ec p1 p2 p3 q1 q2 q3 q4 d ho ho1 hb3 hba hnew hsz hne
            go_wp2_with (first | ((with_reducible refine gate_builtin (b := .append) (xs := #[.tmp 40, .tmp 48]) rfl ?_); refine wpl_append rfl (.tmp 40) (.tmp 48) 22 22 rfl _ _ _ _ rfl rfl HR1.out ?_) | ((with_reducible refine gate_builtin (b := .append) (xs := #[.tmp 54, .tmp 62]) rfl ?_); refine wpl_append rfl (.tmp 54) (.tmp 62) 22 22 rfl _ _ _ _ rfl rfl HR2.out ?_))
            exact ⟨⟨k + 1, v2, by omega, by go_num, rfl, HO2.out, HB5.out⟩, by simp [intOf]; omega⟩
          · rw [if_neg h2, List.append_nil] at ec
            rw [← ec] at q2
            have HO2 := Lib.hid q2
            clear ec q1 q2 q3 q4 d ho ho1 hb3 hba hnew hsz hne
            go_wp2_with ((with_reducible refine gate_builtin (b := .append) (xs := #[.tmp 40, .tmp 48]) rfl ?_); refine wpl_append rfl (.tmp 40) (.tmp 48) 22 22 rfl _ _ _ _ rfl rfl HR1.out ?_)
            exact ⟨⟨k + 1, v1, by omega, by go_num, rfl, HO2.out, HB4.out⟩, by simp [intOf]; omega⟩
        · rw [if_neg h1, List.nil_append] at ec
          by_cases h2 : t < x.f1
          · rw [if_pos h2] at ec
            obtain ⟨v2, w4, p1, p2, p3, _⟩ := app_one _ vv L (if x.f0 < t then t else x.f0) x.f1 _ ho1 hb3.size (by omega)
            rw [hsz] at p1
            rw [← ec] at p2
            have HR2 := Lib.hid p1
            have HO2 := Lib.hid p2
            have HB5 := Lib.hid (hb3.trans p3)
            clear ec p1 p2 p3 ho ho1 hb3 hba hnew hsz hne
            go_wp2_with ((with_reducible refine gate_builtin (b := .append) (xs := #[.tmp 54, .tmp 62]) rfl ?_); refine wpl_append rfl (.tmp 54) (.tmp 62) 22 22 rfl _ _ _ _ rfl rfl HR2.out ?_)
            exact ⟨⟨k + 1, v2, by omega, by go_num, rfl, HO2.out, HB5.out⟩, by simp [intOf]; omega⟩
          · rw [if_neg h2, List.append_nil] at ec
            rw [← ec] at ho1
            have HO2 := Lib.hid ho1
            clear ec ho ho1 hb3 hba hnew hsz hne
            go_wp2_with fail
            exact ⟨⟨k + 1, vv, by omega, by go_num, rfl, HO2.out, HB3.out⟩, by simp [intOf]; omega⟩
      · obtain rfl : k = ms.length := by omega
        rw [List.take_length] at ho
        have hll : (cutM f t ms).length ≤ 2000 := by
          have := cutM_len f t ms
          omega
        obtain ⟨L, hL⟩ : ∃ L, cutM f t ms = L := ⟨_, rfl⟩
        rw [hL] at ho hll
        have hws : w.heap.size ≤ wr.heap.size := (HB2.out.trans (hb2.mono HB2.out.size)).size
        have hc3 := Concat3 _ _ _ _ _ _ _ (H_0.out.below hb2) ho.rd (H_2.out.below hb2) (by omega)
        have hbw := HB2.out.trans (hb2.mono HB2.out.size)
        obtain ⟨Av, cv, rfl, _⟩ := ho.rd
        have HL := Lib.hid hL
        have HC := Lib.hid hc3
        have HBw := Lib.hid hbw
        clear hc3 hbw hb2 HB2 hL ho
        go_wp2_with fail
        refine HC.out.mono ?_
        rintro e w3 ⟨v3, rfl, r3, b3⟩
        have HF3 := Lib.hid (few_calls v3 _ w3 r3)
        have HB3 := Lib.hid (HBw.out.trans (b3.mono hws))
        clear r3 b3 HC HBw
        go_wp2_with fail
        refine HF3.out.mono ?_
        rintro e w4 ⟨v4, rfl, r4, b4⟩
        have hadd : L0 ++ (L ++ L2) = cutL xs f t := by
          unfold cutL
          rw [Hms.out, HL.out, HL0.out, HL2.out]
        rw [hadd] at r4 ⊢
        have HR4 := Lib.hid r4
        have HB4 := Lib.hid (HB3.out.trans (b4.mono HB3.out.size))
        clear r4 b4 HF3 HB3 hadd
        obtain ⟨er, her⟩ : ∃ er, (fewL (cutL xs f t)).2 = er := ⟨_, rfl⟩
        rw [her]
        have Her := Lib.hid her
        clear her
        go_wp2_with fail
        go_ret2
        exact ⟨v4, by rw [Her.out]; rfl, HR4.out, HB4.out⟩
  · rw [if_neg h0]
    have H0 := Lib.hid h0
    have hb : (mayE xs f t != 0) = true := by simpa using h0
    clear h0 hr
    obtain ⟨m, hm⟩ : ∃ m, mayE xs f t = m := ⟨_, rfl⟩
    rw [hm] at hb ⊢
    have Hm := Lib.hid hm
    clear hm
    go_enter Try.func19, Try.ntmps19
    go_wp2_with fail
    refine HM.out.mono ?_
    rw [Hm.out]
    rintro e w1 ⟨rfl, b1⟩
    have HB1 := Lib.hid b1
    clear b1 HM H0
    go_wp2_with fail
    go_ret2
    exact ⟨_, rfl, ⟨none, 0, rfl, Nat.le_refl _, Kd.C_nil k51 _⟩, HB1.out⟩
end Go.Proofs.Ytgiccdjgbjgdcaa.Sp
