/- The walk of SpanTells. -/
import Derived.Test.YtgiccdjgbjgdcaaWw
namespace Go.Proofs.Ytgiccdjgbjgdcaa.Sp
open Go.RowKit Go.Proofs.YtgiccdjgbjgdcaaW.PrintWords PSpanTells

theorem own_empty (w : World) : Own (w.alloc (.cells #[] 51)) w.heap.size (.slice (some ⟨w.heap.size, 0, none⟩) 0 0) [] :=
  ⟨[], ⟨rfl, .inr ⟨w.heap.size, 0, #[], rfl, Nat.le_refl _, heap_alloc_new w _, Nat.le_refl _, Nat.zero_le _, by simp, by simp⟩⟩, Reps.none _ _⟩

set_option maxHeartbeats 1000000 in
theorem tells_walk (A : Option Addr) (c : Nat) (xs : List S51) (day : Int) (w : World) (hr : Kd.C k51 w A xs.length xs) (hc : xs.length ≤ c) :
    Calls Try.prog 3 #[.slice A xs.length c, .int .i64 day] w fun e w' => e = .returned (.bool true) ∧ Below w.heap.size w w' := by
  by_cases hl : xs.length ≤ 1100
  · have hgt : ¬ (1100 : Int) < (xs.length : Int) := by omega
    have HR := Lib.hid hr
    obtain ⟨v1, w1, hrun, ho, hb, _⟩ := app_rows w.heap.size _ [] xs A c _ (own_empty w) (Kd.C_below hr ((Below.refl w.heap.size w).alloc (Nat.le_refl _) _)) (by simp) (by simp; omega)
    have HRun := Lib.hid hrun
    clear hr
    go_enter Try.func3, Try.ntmps3
    go_wp2_with ((with_reducible refine gate_builtin (b := .append) (xs := #[.tmp 11, .tmp 12]) rfl ?_); refine wpl_append rfl (.tmp 11) (.tmp 12) 22 22 rfl _ _ _ _ rfl rfl HRun.out ?_)
    have HB1 := Lib.hid (((Below.refl w.heap.size w).alloc (Nat.le_refl _) (.cells #[] 51)).trans hb)
    have HO := Lib.hid ho
    have HX := Lib.hid (show Rd w (.slice A xs.length c) xs from ⟨A, c, rfl, hc, HR.out⟩)
    have HOwn := Lib.hid (own_calls _ xs w1 (HX.out.below HB1.out) (by omega))
    have hl6 : xs.length ≤ 1000000 := by omega
    clear ho hb
    refine HOwn.out.mono ?_
    rintro e w2 ⟨v2, rfl, r2, b2⟩
    have HRr := Lib.hid r2
    have HAa := Lib.hid (HO.out.rd.below b2)
    have HB2 := Lib.hid (HB1.out.trans (b2.mono HB1.out.size))
    clear r2 b2 HOwn HB1
    rw [List.nil_append] at HAa
    obtain ⟨gb, hgb⟩ : ∃ gb, goodB xs = gb := ⟨_, rfl⟩
    obtain ⟨hh, hhh⟩ : ∃ hh, (goodB xs && inB xs day) = hh := ⟨_, rfl⟩
    obtain ⟨dd, hdd⟩ : ∃ dd, daysF xs = dd := ⟨_, rfl⟩
    have HBc := Lib.hid (Below.refl w2.heap.size w2)
    have HC0 := Lib.hid (Good_rd v1 xs w2 (HAa.out.below HBc.out))
    rw [hgb] at HC0
    go_wp2_with fail
    refine HC0.out.mono ?_
    rintro e u0 ⟨rfl, d0⟩
    have HD0 := Lib.hid (HBc.out.trans (d0.mono HBc.out.size))
    clear d0 HC0
    have HC1 := Lib.hid (rGood_calls v2 xs u0 (HRr.out.below HD0.out) hl6)
    rw [hgb] at HC1
    go_wp2_with fail
    refine HC1.out.mono ?_
    rintro e u1 ⟨rfl, d1⟩
    have HD1 := Lib.hid (HD0.out.trans (d1.mono HD0.out.size))
    clear d1 HC1
    have HC2 := Lib.hid (Has_rd v1 xs day u1 (HAa.out.below HD1.out))
    rw [hhh] at HC2
    go_wp2_with fail
    refine HC2.out.mono ?_
    rintro e u2 ⟨rfl, d2⟩
    have HD2 := Lib.hid (HD1.out.trans (d2.mono HD1.out.size))
    clear d2 HC2
    have HC3 := Lib.hid (rHas_calls v2 xs day u2 (HRr.out.below HD2.out) hl6)
    rw [hhh] at HC3
    go_wp2_with fail
    refine HC3.out.mono ?_
    rintro e u3 ⟨rfl, d3⟩
    have HD3 := Lib.hid (HD2.out.trans (d3.mono HD2.out.size))
    clear d3 HC3
    have HC4 := Lib.hid (Days_rd v1 xs u3 (HAa.out.below HD3.out))
    rw [hdd] at HC4
    go_wp2_with fail
    refine HC4.out.mono ?_
    rintro e u4 ⟨rfl, d4⟩
    have HD4 := Lib.hid (HD3.out.trans (d4.mono HD3.out.size))
    clear d4 HC4
    have HC5 := Lib.hid (rDays_calls v2 xs u4 (HRr.out.below HD4.out) hl6)
    rw [hdd] at HC5
    go_wp2_with fail
    refine HC5.out.mono ?_
    rintro e u5 ⟨rfl, d5⟩
    have HD5 := Lib.hid (HD4.out.trans (d5.mono HD4.out.size))
    clear d5 HC5
    have HC6 := Lib.hid (same_calls v1 v2 xs xs u5 (HAa.out.below HD5.out) (HRr.out.below HD5.out) hl6)
    rw [sameB_refl] at HC6
    go_wp2_with fail
    refine HC6.out.mono ?_
    rintro e u6 ⟨rfl, d6⟩
    have HD6 := Lib.hid (HD5.out.trans (d6.mono HD5.out.size))
    clear d6 HC6
    go_wp2_with fail
    refine (wakes_calls u6).mono ?_
    rintro e u7 ⟨rfl, d7⟩
    have HD7 := Lib.hid (HD6.out.trans (d7.mono HD6.out.size))
    clear d7
    go_wp2_with fail
    go_ret
    exact ⟨rfl, HB2.out.trans (HD7.out.mono HB2.out.size)⟩
  · have hgt : (1100 : Int) < (xs.length : Int) := by omega
    go_enter Try.func3, Try.ntmps3
    go_wp2_with (go_at_call 8; refine (wakes_calls _).mono ?_; rintro e w2 ⟨rfl, h1⟩)
    go_ret
    exact ⟨rfl, h1⟩
end Go.Proofs.Ytgiccdjgbjgdcaa.Sp
