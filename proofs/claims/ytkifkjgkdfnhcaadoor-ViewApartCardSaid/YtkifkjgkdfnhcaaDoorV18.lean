/- ViewApart walked. -/
import Derived.Test.YtkifkjgkdfnhcaaDoorV15
import Derived.Test.YtkifkjgkdfnhcaaDoorV19
namespace Go.Proofs.YtkifkjgkdfnhcaaDoor.Vw
open Go.RowKit Go.Sort Go.Lib Go.Shelf
attribute [local go_sem ↓] Go.wp_at_zero Go.wp_at_succ

set_option maxRecDepth 20000 in
theorem mod_calls (k : Int) (h0 : -9223372036854775808 ≤ k) (h1 : k ≤ 9223372036854775807) (w : World) : Calls Tryd.prog 15 #[.int .i64 k, .int .i64 87659] w fun e w' => e = .returned (.int .i64 (k % 87659)) ∧ w = w' := by
  by_cases h : 0 ≤ k
  · have HR : Hid ((k % 87659 + 87659) % 87659 = k % 87659) := Lib.hid (by omega)
    go_enter Tryd.func15, Tryd.ntmps15
    go_wp2_with fail
    go_ret
    exact ⟨by show Ending.returned (.int .i64 ((k % 87659 + 87659) % 87659)) = _; rw [HR.out], rfl⟩
  · have ht : k.tmod 87659 = -((-k) % 87659) := by
      have e : k = -(-k) := by omega
      rw [e, Int.neg_tmod, Int.neg_neg, Int.tmod_eq_emod_of_nonneg (by omega)]
    have hr : -87659 < k.tmod 87659 ∧ k.tmod 87659 ≤ 0 ∧ k.tmod 87659 % 87659 = k % 87659 := by
      rw [ht]
      omega
    have HR := Lib.hid hr.2.2
    have hp : 0 ≤ k.tmod 87659 + 87659 := by omega
    have hb : k.tmod 87659 ≤ 0 := hr.2.1
    clear hr ht
    go_enter Tryd.func15, Tryd.ntmps15
    go_wp2_with fail
    go_ret
    exact ⟨by show Ending.returned (.int .i64 (k.tmod 87659 % 87659)) = _; rw [HR.out], rfl⟩
set_option maxRecDepth 20000 in
set_option maxHeartbeats 16000000 in
theorem apart_walk (a b x y : Int) (ha : -9223372036854775808 ≤ a ∧ a ≤ 9223372036854775807) (hb : -9223372036854775808 ≤ b ∧ b ≤ 9223372036854775807) (hx : -9223372036854775808 ≤ x ∧ x ≤ 9223372036854775807) (hy : -9223372036854775808 ≤ y ∧ y ≤ 9223372036854775807) (w : World) (htab : Tab w) :
    Calls Tryd.prog 4 #[.int .i64 a, .int .i64 b, .agg #[.int .i64 x, .int .i64 y]] w fun e w' => e = .returned (.bool true) ∧ Below w.heap.size w w' := by
  have HK0 := Lib.hid (Blk.new w 33 #[.int .i64 x, .int .i64 y])
  have hb0 := (Below.refl w.heap.size w).alloc (Nat.le_refl _) (.cells #[.int .i64 x, .int .i64 y] 33)
  have HB0 := Lib.hid hb0
  have HT0 := Lib.hid (htab.below hb0)
  clear hb0 htab
  have HA := Lib.hid (fun W (hW : Tab W) => vmoney_calls a ha.1 ha.2 W hW)
  have HB := Lib.hid (fun W (hW : Tab W) => vmoney_calls b hb.1 hb.2 W hW)
  have hq : ((str (moneyL a)).toList == (str (moneyL b)).toList) = (a == b) := by
    rw [beq_str, Bool.eq_iff_iff]
    simp [money_apart a b ha hb]
  have H15x := Lib.hid (fun W => mod_calls x hx.1 hx.2 W)
  have H15y := Lib.hid (fun W => mod_calls y hy.1 hy.2 W)
  have hu : 0 ≤ x % 87659 ∧ x % 87659 ≤ 87658 := by omega
  have hv : 0 ≤ y % 87659 ∧ y % 87659 ≤ 87658 := by omega
  generalize x % 87659 = u at *
  generalize y % 87659 = v at *
  have HU := Lib.hid (fun W (hW : Tab W) => vday_calls u W hW)
  have HV := Lib.hid (fun W (hW : Tab W) => vday_calls v W hW)
  have hq2 : ((str (dayL u)).toList == (str (dayL v)).toList) = (u == v) := by
    rw [beq_str, Bool.eq_iff_iff]
    simp [days_same u v hu hv]
  have hlen : (str (dayL u)).size = 10 := by rw [str_size]; exact (days_apart u v hu hv).2
  have hless : Op.bytesLess (str (dayL u)).toList (str (dayL v)).toList = decide (u < v) := by
    rw [Lib.toList_data, Lib.toList_data]
    exact (days_apart u v hu hv).1
  generalize str (moneyL a) = s1 at *
  generalize str (moneyL b) = s2 at *
  generalize str (dayL u) = s3 at *
  generalize str (dayL v) = s4 at *
  generalize hab : (a == b) = q at *
  generalize huv : (u == v) = q3 at *
  generalize hlt : decide (u < v) = q4 at *
  have hqq4 : (q4 == q4) = true := by simp
  have hqq : (q == q) = true := by simp
  have hqn : (q != q) = false := by simp
  have hqq3 : (q3 == q3) = true := by simp
  clear ha hb hx hy hu hv
  go_enter Tryd.func4, Tryd.ntmps4
  go_upto_region 1 with fail
  generalize w.alloc (.cells #[.int .i64 x, .int .i64 y] 33) = w0 at *
  generalize hg : w.heap.size = g at *
  have HG := Lib.hid hg
  clear hg
  go_wp2_with fail
  refine (HA.out _ HT0.out).mono ?_
  rintro e w1 ⟨rfl, hb1⟩
  have HK1 := Lib.hid (HK0.out.below hb1)
  have HT1 := Lib.hid (HT0.out.below hb1)
  have HB1 := Lib.hid (HB0.out.trans (hb1.mono (HG.out ▸ HB0.out.size)))
  clear hb1
  go_wp2_with fail
  refine (HB.out _ HT1.out).mono ?_
  rintro e w2 ⟨rfl, hb1⟩
  have HK2 := Lib.hid (HK1.out.below hb1)
  have HT2 := Lib.hid (HT1.out.below hb1)
  have HB2 := Lib.hid (HB1.out.trans (hb1.mono (HG.out ▸ HB1.out.size)))
  clear hb1
  go_upto_region 3 with fail
  have c0 : w2.cell? ⟨g, 0, none⟩ = some (.int .i64 x) := HK2.out.cell 0
  have c1 : w2.cell? ⟨g, 1, none⟩ = some (.int .i64 y) := HK2.out.cell 1
  go_region_held3 (fun w' => w'.cell? ⟨g, 0, none⟩ = some (.int .i64 x) ∧ w'.cell? ⟨g, 1, none⟩ = some (.int .i64 y)) (go_keep)
    (first
      | ((go_at_call 15; have _t := tok; (with_reducible refine (H15y.out w2.drew).mono ?_); rintro r pw ⟨rfl, rfl⟩))
      | ((go_at_call 15; (with_reducible refine (H15x.out w2.drew).mono ?_); rintro r pw ⟨rfl, rfl⟩; have tok : True := trivial)))
  have HT3 : Hid (Tab w2.drew) := Lib.hid (HT2.out.below (Below.refl _ _).drew)
  have HB3 := Lib.hid HB2.out.drew
  generalize w2.drew = w3 at *
  clear c0 c1
  go_wp2_with fail
  refine (HU.out _ HT3.out).mono ?_
  rintro e w4 ⟨rfl, hb1⟩
  have HT4 := Lib.hid (HT3.out.below hb1)
  have HB4 := Lib.hid (HB3.out.trans (hb1.mono (HG.out ▸ HB3.out.size)))
  clear hb1
  go_wp2_with fail
  refine (HV.out _ HT4.out).mono ?_
  rintro e w5 ⟨rfl, hb1⟩
  have HT5 := Lib.hid (HT4.out.below hb1)
  have HB5 := Lib.hid (HB4.out.trans (hb1.mono (HG.out ▸ HB4.out.size)))
  clear hb1
  go_wp2_with fail
  refine (HU.out _ HT5.out).mono ?_
  rintro e w6 ⟨rfl, hb1⟩
  have HT6 := Lib.hid (HT5.out.below hb1)
  have HB6 := Lib.hid (HB5.out.trans (hb1.mono (HG.out ▸ HB5.out.size)))
  clear hb1
  go_wp2_with fail
  refine (HU.out _ HT6.out).mono ?_
  rintro e w7 ⟨rfl, hb1⟩
  have HT7 := Lib.hid (HT6.out.below hb1)
  have HB7 := Lib.hid (HB6.out.trans (hb1.mono (HG.out ▸ HB6.out.size)))
  clear hb1
  go_wp2_with fail
  refine (HV.out _ HT7.out).mono ?_
  rintro e w8 ⟨rfl, hb1⟩
  have HT8 := Lib.hid (HT7.out.below hb1)
  have HB8 := Lib.hid (HB7.out.trans (hb1.mono (HG.out ▸ HB7.out.size)))
  clear hb1
  go_wp2_with fail
  refine (wakes_calls _ HT8.out).mono ?_
  rintro e w9 ⟨rfl, hb1⟩
  have HB9 := Lib.hid (HB8.out.trans (hb1.mono (HG.out ▸ HB8.out.size)))
  clear hb1
  go_wp2_with fail
  go_ret
  exact ⟨rfl, by rw [HG.out]; exact HB9.out⟩
end Go.Proofs.YtkifkjgkdfnhcaaDoor.Vw
