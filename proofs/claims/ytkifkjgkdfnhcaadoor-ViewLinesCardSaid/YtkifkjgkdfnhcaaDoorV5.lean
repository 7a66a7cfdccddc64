/- Days as texts, of both. -/
import Derived.Test.YtkifkjgkdfnhcaaDoorV4
namespace Go.Proofs.YtkifkjgkdfnhcaaDoor.Vw
open Go.RowKit Go.Sort Go.Lib Go.Shelf
attribute [local go_sem ↓] Go.wp_at_zero Go.wp_at_succ

/-- A date as a text. -/
def dayT (y m d : Nat) : List UInt8 := cat (cat (cat (cat (pad y 4) [45]) (pad m 2)) [45]) (pad d 2)
theorem dec_four (y : Nat) (h : 1000 ≤ y ∧ y < 10000) : pad y 4 = Lib.decDigits y := by
  have : (Lib.decDigits y).length = 4 := by
    rw [dec_more y (by omega), dec_more (y / 10) (by omega), dec_more (y / 10 / 10) (by omega), dec_one (y / 10 / 10 / 10) (by omega), dec_one (y / 10 / 10 % 10) (by omega), dec_one (y / 10 % 10) (by omega), dec_one (y % 10) (by omega)]
    rfl
  unfold pad
  rw [this]
  rfl
open Classical in
/-- A day as a text. -/
noncomputable def dayL (n : Int) : List UInt8 :=
  if h : ∃ k, k < 2880 ∧ S k ≤ n ∧ n < S (k + 1) then dayT (1960 + h.choose / 12) (1 + h.choose % 12) (n - S h.choose + 1).toNat else [45]
theorem dayL_at {n : Int} {k : Nat} (hk : k < 2880) (h : S k ≤ n ∧ n < S (k + 1)) : dayL n = dayT (1960 + k / 12) (1 + k % 12) (n - S k + 1).toNat := by
  have hx : ∃ k, k < 2880 ∧ S k ≤ n ∧ n < S (k + 1) := ⟨k, hk, h⟩
  unfold dayL
  rw [dif_pos hx, S_one hx.choose_spec.2 h]
theorem good_iff (n : Int) : goodD n = true ↔ 0 ≤ n ∧ n ≤ 87658 := by unfold goodD; simp
theorem dayL_none {n : Int} (h : goodD n = false) : dayL n = [45] := by
  unfold dayL
  rw [dif_neg]
  rintro ⟨k, hk, hn⟩
  have := (good_iff n).2 (day_range hk hn)
  rw [h] at this
  cases this
theorem day_month {n : Int} {k : Nat} (h : S k ≤ n ∧ n < S (k + 1)) : 1 ≤ (n - S k + 1).toNat ∧ (n - S k + 1).toNat ≤ 31 ∧ n - S k + 1 = (((n - S k + 1).toNat : Nat) : Int) := by
  have h1 := md_le k
  have h2 : S (k + 1) = S k + md k := rfl
  omega
set_option maxRecDepth 20000 in
set_option maxHeartbeats 4000000 in
theorem vday_calls (n : Int) (w : World) (htab : Tab w) : Calls Tryd.prog 8 #[.int .i64 n] w fun e w' => e = .returned (.string (str (dayL n))) ∧ Below w.heap.size w w' := by
  have HT := Lib.hid htab
  clear htab
  cases hg : goodD n with
  | false =>
    have HC := Lib.hid (fun W => civil_bad n hg W)
    have HD := Lib.hid (dayL_none hg)
    clear hg
    go_enter Tryd.func8, Tryd.ntmps8
    go_wp2_with fail
    refine (HC.out _).mono ?_
    rintro e w1 ⟨rfl, rfl⟩
    go_wp2_with fail
    go_ret
    exact ⟨by rw [HD.out]; rfl, Below.refl _ _⟩
  | true =>
    obtain ⟨k, hk, hn⟩ := S_all n ((good_iff n).1 hg)
    obtain ⟨d1, d2, d3⟩ := day_month hn
    have hC := fun W => civil_calls n k hk hn W
    rw [d3, show (1960 : Int) + ((k / 12 : Nat) : Int) = ((1960 + k / 12 : Nat) : Int) by omega, show (1 : Int) + ((k % 12 : Nat) : Int) = ((1 + k % 12 : Nat) : Int) by omega] at hC
    have hD := dayL_at hk hn
    have y1 : 1960 + k / 12 < 10000 := by omega
    have m1 : 1 + k % 12 < 100 := by omega
    generalize 1960 + k / 12 = Y at *
    generalize 1 + k % 12 = M at *
    generalize (n - S k + 1).toNat = D at *
    clear d3 hg
    have HC := Lib.hid hC
    have HD := Lib.hid hD
    clear hC hD hn hk
    have H1 := Lib.hid (fun W (hW : Tab W) => digits_calls Y 4 (by omega) (by decide) W hW)
    have H2 := Lib.hid (fun W (hW : Tab W) => digits_calls M 2 (by omega) (by decide) W hW)
    have H3 := Lib.hid (fun W (hW : Tab W) => digits_calls D 2 (by omega) (by decide) W hW)
    have wy : IntKind.u64.wrap (Y : Int) = (Y : Int) := by rw [IntKind.wrap_u64]; omega
    have wm : IntKind.u64.wrap (M : Int) = (M : Int) := by rw [IntKind.wrap_u64]; omega
    have wd : IntKind.u64.wrap (D : Int) = (D : Int) := by rw [IntKind.wrap_u64]; omega
    have l1 := pad_len Y 4 (by omega) (by decide)
    have l2 := pad_len M 2 (by omega) (by decide)
    have l3 := pad_len D 2 (by omega) (by decide)
    unfold dayT at HD
    generalize pad Y 4 = A at *
    generalize pad M 2 = B at *
    generalize pad D 2 = C at *
    have a1 := add_cat A [45] (by simp; omega)
    have a2 := add_cat (cat A [45]) B (by simp [cat_len]; omega)
    have a3 := add_cat (cat (cat A [45]) B) [45] (by simp [cat_len]; omega)
    have a4 := add_cat (cat (cat (cat A [45]) B) [45]) C (by simp [cat_len]; omega)
    clear l1 l2 l3
    go_enter Tryd.func8, Tryd.ntmps8
    go_wp2_with fail
    refine (HC.out _).mono ?_
    rintro e w1 ⟨rfl, rfl⟩
    go_wp2_with fail
    refine (H1.out _ HT.out).mono ?_
    rintro e w2 ⟨rfl, hb⟩
    have HT2 := Lib.hid (HT.out.below hb)
    have HB2 := Lib.hid hb
    clear hb
    go_wp2_with fail
    refine (H2.out _ HT2.out).mono ?_
    rintro e w3 ⟨rfl, hb⟩
    have HT3 := Lib.hid (HT2.out.below hb)
    have HB3 := Lib.hid (HB2.out.trans (hb.mono HB2.out.size))
    clear hb
    go_wp2_with fail
    refine (H3.out _ HT3.out).mono ?_
    rintro e w4 ⟨rfl, hb⟩
    have HB4 := Lib.hid (HB3.out.trans (hb.mono HB3.out.size))
    clear hb
    go_wp2_with fail
    go_ret
    exact ⟨by rw [HD.out]; rfl, HB4.out⟩
set_option maxRecDepth 20000 in
set_option maxHeartbeats 4000000 in
theorem rday_calls (n : Int) (w : World) : Calls Tryd.prog 9 #[.int .i64 n] w fun e w' => e = .returned (.string (str (dayL n))) ∧ Below w.heap.size w w' := by
  cases hg : goodD n with
  | false =>
    have HC := Lib.hid (fun W => rcivil_bad n hg W)
    have HD := Lib.hid (dayL_none hg)
    clear hg
    go_enter Tryd.func9, Tryd.ntmps9
    go_wp2_with fail
    refine (HC.out _).mono ?_
    rintro e w1 ⟨rfl, hb⟩
    have HB := Lib.hid (hb.alloc hb.size (.cells #[.int .i64 0, .int .i64 0, .int .i64 0] 55))
    clear hb
    go_wp2_with fail
    go_ret
    exact ⟨by rw [HD.out]; rfl, HB.out⟩
  | true =>
    obtain ⟨k, hk, hn⟩ := S_all n ((good_iff n).1 hg)
    obtain ⟨d1, d2, d3⟩ := day_month hn
    have hC := fun W => rcivil_calls n k hk hn W
    rw [d3, show (1960 : Int) + ((k / 12 : Nat) : Int) = ((1960 + k / 12 : Nat) : Int) by omega, show (1 : Int) + ((k % 12 : Nat) : Int) = ((1 + k % 12 : Nat) : Int) by omega] at hC
    have hD := dayL_at hk hn
    have y1 : 1000 ≤ 1960 + k / 12 ∧ 1960 + k / 12 < 10000 := by omega
    have m1 : 1 + k % 12 < 100 := by omega
    generalize 1960 + k / 12 = Y at *
    generalize 1 + k % 12 = M at *
    generalize (n - S k + 1).toNat = D at *
    clear d3 hg
    have HC := Lib.hid hC
    have HD := Lib.hid hD
    clear hC hD hn hk
    have H1 := Lib.hid (fun W => dec_calls Y W (by omega))
    have H2 := Lib.hid (fun W => two_calls M W m1)
    have H3 := Lib.hid (fun W => two_calls D W (by omega))
    have wy : IntKind.u64.wrap (Y : Int) = (Y : Int) := by rw [IntKind.wrap_u64]; omega
    have wm : IntKind.u64.wrap (M : Int) = (M : Int) := by rw [IntKind.wrap_u64]; omega
    have wd : IntKind.u64.wrap (D : Int) = (D : Int) := by rw [IntKind.wrap_u64]; omega
    obtain ⟨_, l1⟩ := dig_len Y (by omega)
    have l2 := pad_len M 2 (by omega) (by decide)
    have l3 := pad_len D 2 (by omega) (by decide)
    unfold dayT at HD
    rw [dec_four Y y1] at HD
    generalize Lib.decDigits Y = A at *
    generalize pad M 2 = B at *
    generalize pad D 2 = C at *
    have a1 := add_cat A [45] (by simp; omega)
    have a2 := add_cat (cat A [45]) B (by simp [cat_len]; omega)
    have a3 := add_cat (cat (cat A [45]) B) [45] (by simp [cat_len]; omega)
    have a4 := add_cat (cat (cat (cat A [45]) B) [45]) C (by simp [cat_len]; omega)
    clear l1 l2 l3
    go_enter Tryd.func9, Tryd.ntmps9
    go_wp2_with fail
    refine (HC.out _).mono ?_
    rintro e w1 ⟨rfl, hb⟩
    have HR := Lib.hid (Blk.new w1 55 #[.int .i64 (Y : Int), .int .i64 (M : Int), .int .i64 (D : Int)])
    have HB := Lib.hid (hb.alloc hb.size (.cells #[.int .i64 (Y : Int), .int .i64 (M : Int), .int .i64 (D : Int)] 55))
    clear hb
    go_upto_region 4 with fail
    generalize w1.alloc (.cells #[.int .i64 (Y : Int), .int .i64 (M : Int), .int .i64 (D : Int)] 55) = w2 at *
    generalize w1.heap.size = g at *
    have c0 : w2.cell? ⟨g, 0, none⟩ = some (.int .i64 (Y : Int)) := HR.out.cell 0
    have c1 : w2.cell? ⟨g, 1, none⟩ = some (.int .i64 (M : Int)) := HR.out.cell 1
    have c2 : w2.cell? ⟨g, 2, none⟩ = some (.int .i64 (D : Int)) := HR.out.cell 2
    go_region_held3 (fun w' => w'.cell? ⟨g, 0, none⟩ = some (.int .i64 (Y : Int)) ∧ w'.cell? ⟨g, 1, none⟩ = some (.int .i64 (M : Int)) ∧ w'.cell? ⟨g, 2, none⟩ = some (.int .i64 (D : Int))) (go_keep)
      (first
        | ((go_at_call 22; (with_reducible refine (H3.out _).mono ?_); rintro e wc ⟨rfl, rfl⟩))
        | ((go_at_call 22; (with_reducible refine (H2.out _).mono ?_); rintro e wc ⟨rfl, rfl⟩))
        | ((go_at_call 21; (with_reducible refine (H1.out _).mono ?_); rintro e wc ⟨rfl, rfl⟩)))
    go_wp2_with fail
    go_ret
    exact ⟨by rw [HD.out]; rfl, HB.out.drew⟩
end Go.Proofs.YtkifkjgkdfnhcaaDoor.Vw
