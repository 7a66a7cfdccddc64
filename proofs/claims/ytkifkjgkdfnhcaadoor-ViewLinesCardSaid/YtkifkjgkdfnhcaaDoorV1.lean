/- Money of both; the reference's numbers as texts. -/
import Derived.Test.YtkifkjgkdfnhcaaDoorV0
namespace Go.Proofs.YtkifkjgkdfnhcaaDoor.Vw
open Go.RowKit Go.Sort Go.Lib Go.Shelf

theorem dec_one (u : Nat) (h : u < 10) : Lib.decDigits u = [UInt8.ofNat (48 + u)] := by rw [Lib.decDigits, dif_pos h]
theorem dec_more (u : Nat) (h : ¬ u < 10) : Lib.decDigits u = Lib.decDigits (u / 10) ++ Lib.decDigits (u % 10) := by
  rw [Lib.decDigits, dif_neg h, dec_one (u % 10) (by omega)]
theorem slice_one (u : Nat) (h : u < 10) (W : World) : (Instr.sliceAt 9 (.string ⟨#[48, 49, 50, 51, 52, 53, 54, 55, 56, 57]⟩) (some (.int .u64 (u : Int))) (some (.int .u64 ((u : Int) + 1))) none).run Tryd.prog W = .ok (.string (str (Lib.decDigits u))) W := by
  rw [dec_one u h]
  have : u = 0 ∨ u = 1 ∨ u = 2 ∨ u = 3 ∨ u = 4 ∨ u = 5 ∨ u = 6 ∨ u = 7 ∨ u = 8 ∨ u = 9 := by omega
  rcases this with rfl | rfl | rfl | rfl | rfl | rfl | rfl | rfl | rfl | rfl <;> (show _ = _; kernel_rfl)
set_option maxRecDepth 20000 in
theorem dec_base (u : Nat) (h : u < 10) (w : World) : Calls Tryd.prog 21 #[.int .u64 u] w fun e w' => e = .returned (.string (str (Lib.decDigits u))) ∧ w' = w := by
  have hs := slice_one u h
  have h1 : (u : Int) < 10 := by omega
  go_enter Tryd.func21, Tryd.ntmps21
  go_wp2_with fail
  go_ret
  exact ⟨rfl, rfl⟩
set_option maxRecDepth 20000 in
theorem dec_any (k : Nat) : ∀ (u : Nat) (w : World), u < 10 ^ (k + 1) → u < 18446744073709551616 → Calls Tryd.prog 21 #[.int .u64 u] w fun e w' => e = .returned (.string (str (Lib.decDigits u))) ∧ w' = w := by
  induction k with
  | zero => intro u w h _; exact dec_base u (by omega) w
  | succ k ih =>
    intro u w h h64
    by_cases h10 : u < 10
    · exact dec_base u h10 w
    · have q1 : u / 10 < 10 ^ (k + 1) := by rw [Nat.pow_succ] at h; omega
      have HA := Lib.hid (fun W => ih (u / 10) W q1 (by omega))
      have HB := Lib.hid (fun W => dec_base (u % 10) (by omega) W)
      obtain ⟨_, l1⟩ := dig_len (u / 10) (by omega)
      obtain ⟨_, l2⟩ := dig_len (u % 10) (by omega)
      have hadd := add_run (Lib.decDigits (u / 10)) (Lib.decDigits (u % 10)) (by omega)
      rw [← dec_more u h10] at hadd
      have h1 : ¬ (u : Int) < 10 := by omega
      clear l1 l2 q1 h
      go_enter Tryd.func21, Tryd.ntmps21
      go_wp2_with fail
      rw [show (u : Int) / 10 = ((u / 10 : Nat) : Int) by omega]
      refine (HA.out _).mono ?_
      rintro e w1 ⟨rfl, rfl⟩
      go_wp2_with fail
      rw [show (u : Int) % 10 = ((u % 10 : Nat) : Int) by omega]
      refine (HB.out _).mono ?_
      rintro e w1 ⟨rfl, rfl⟩
      go_wp2_with fail
      go_ret
      exact ⟨rfl, rfl⟩
theorem dec_calls (u : Nat) (w : World) (h64 : u < 18446744073709551616) : Calls Tryd.prog 21 #[.int .u64 u] w fun e w' => e = .returned (.string (str (Lib.decDigits u))) ∧ w' = w :=
  dec_any 19 u w (by omega) h64
theorem pad_two (u : Nat) (h : u < 100) : Lib.decDigits (u / 10 % 10) ++ Lib.decDigits (u % 10) = pad u 2 := by
  unfold pad
  by_cases h1 : u < 10
  · rw [dec_one u h1, dec_one (u / 10 % 10) (by omega), dec_one (u % 10) (by omega), show u / 10 % 10 = 0 by omega, show u % 10 = u by omega]
    rfl
  · rw [dec_more u h1, dec_one (u / 10) (by omega), dec_one (u / 10 % 10) (by omega), show u / 10 % 10 = u / 10 by omega, dec_one (u % 10) (by omega)]
    rfl
set_option maxRecDepth 20000 in
theorem two_calls (u : Nat) (w : World) (h : u < 100) : Calls Tryd.prog 22 #[.int .u64 u] w fun e w' => e = .returned (.string (str (pad u 2))) ∧ w' = w := by
  have HA := Lib.hid (fun W => dec_base (u / 10 % 10) (by omega) W)
  have HB := Lib.hid (fun W => dec_base (u % 10) (by omega) W)
  obtain ⟨_, l1⟩ := dig_len (u / 10 % 10) (by omega)
  obtain ⟨_, l2⟩ := dig_len (u % 10) (by omega)
  have hadd := add_run (Lib.decDigits (u / 10 % 10)) (Lib.decDigits (u % 10)) (by omega)
  rw [pad_two u h] at hadd
  clear l1 l2
  go_enter Tryd.func22, Tryd.ntmps22
  go_wp2_with fail
  rw [show (u : Int) / 10 % 10 = ((u / 10 % 10 : Nat) : Int) by omega]
  refine (HA.out _).mono ?_
  rintro e w1 ⟨rfl, rfl⟩
  go_wp2_with fail
  rw [show (u : Int) % 10 = ((u % 10 : Nat) : Int) by omega]
  refine (HB.out _).mono ?_
  rintro e w1 ⟨rfl, rfl⟩
  go_wp2_with fail
  go_ret
  exact ⟨rfl, rfl⟩
/-- Money as a text. -/
def moneyL (c : Int) : List UInt8 := if c < 0 then 45 :: (Lib.decDigits (c.natAbs / 100) ++ (46 :: pad (c.natAbs % 100) 2)) else Lib.decDigits (c.natAbs / 100) ++ (46 :: pad (c.natAbs % 100) 2)
theorem pad_one (u : Nat) : pad u 1 = Lib.decDigits u := by
  unfold pad
  by_cases h : u < 10
  · rw [dec_one u h]; rfl
  · have : 1 ≤ (Lib.decDigits u).length := by
      rw [dec_more u h, List.length_append, dec_one (u % 10) (by omega)]
      simp
    rw [show 1 - (Lib.decDigits u).length = 0 by omega]
    rfl
theorem neg_wrap (m : Nat) (h : m ≤ 9223372036854775808) : IntKind.u64.wrap (-IntKind.u64.wrap (-(m : Int))) = (m : Int) := by rw [IntKind.wrap_u64, IntKind.wrap_u64]; omega
set_option maxRecDepth 20000 in
set_option maxHeartbeats 1000000 in
theorem vmoney_calls (c : Int) (h0 : -9223372036854775808 ≤ c) (h1 : c ≤ 9223372036854775807) (w : World) (htab : Tab w) :
    Calls Tryd.prog 6 #[.int .i64 c] w fun e w' => e = .returned (.string (str (moneyL c))) ∧ Below w.heap.size w w' := by
  have HT := Lib.hid htab
  obtain ⟨m, hm⟩ : ∃ m, c.natAbs = m := ⟨_, rfl⟩
  have m1 : m / 100 < 18446744073709551616 := by omega
  have m2 : m % 100 < 18446744073709551616 := by omega
  have HA := Lib.hid (fun W (hW : Tab W) => digits_calls (m / 100) 1 m1 (by decide) W hW)
  have HB := Lib.hid (fun W (hW : Tab W) => digits_calls (m % 100) 2 m2 (by decide) W hW)
  have l1 := pad_len (m / 100) 1 m1 (by decide)
  have l2 := pad_len (m % 100) 2 m2 (by decide)
  have hM : moneyL c = if c < 0 then cat (cat (cat [45] (pad (m / 100) 1)) [46]) (pad (m % 100) 2) else cat (cat (cat [] (pad (m / 100) 1)) [46]) (pad (m % 100) 2) := by
    unfold moneyL cat
    rw [hm, pad_one]
    split <;> simp
  have HM := Lib.hid hM
  have ha1 := add_cat [45] (pad (m / 100) 1) (by simp; omega)
  have ha2 := add_cat (cat [45] (pad (m / 100) 1)) [46] (by simp [cat_len]; omega)
  have ha3 := add_cat (cat (cat [45] (pad (m / 100) 1)) [46]) (pad (m % 100) 2) (by simp [cat_len]; omega)
  have hb1 := add_cat [] (pad (m / 100) 1) (by simp; omega)
  have hb2 := add_cat (cat [] (pad (m / 100) 1)) [46] (by simp [cat_len]; omega)
  have hb3 := add_cat (cat (cat [] (pad (m / 100) 1)) [46]) (pad (m % 100) 2) (by simp [cat_len]; omega)
  clear hM l1 l2 htab m1 m2
  by_cases hneg : c < 0
  · rw [if_pos hneg] at HM
    have hc : c = -(m : Int) := by omega
    have hw := neg_wrap m (by omega)
    subst hc
    clear hm hb1 hb2 hb3
    generalize pad (m / 100) 1 = A at *
    generalize pad (m % 100) 2 = B at *
    go_enter Tryd.func6, Tryd.ntmps6
    go_wp2_with fail
    rw [show (m : Int) / 100 = ((m / 100 : Nat) : Int) by omega]
    refine (HA.out _ HT.out).mono ?_
    rintro e w1 ⟨rfl, hb⟩
    have HT1 := Lib.hid (HT.out.below hb)
    have HB1 := Lib.hid hb
    clear hb
    go_wp2_with fail
    rw [show (m : Int) % 100 = ((m % 100 : Nat) : Int) by omega]
    refine (HB.out _ HT1.out).mono ?_
    rintro e w2 ⟨rfl, hb⟩
    have HB2 := Lib.hid (HB1.out.trans (hb.mono HB1.out.size))
    clear hb
    go_wp2_with fail
    go_ret
    exact ⟨by rw [HM.out]; rfl, HB2.out⟩
  · rw [if_neg hneg] at HM
    have hc : c = (m : Int) := by omega
    subst hc
    have hw : IntKind.u64.wrap (m : Int) = (m : Int) := by rw [IntKind.wrap_u64]; omega
    clear hm ha1 ha2 ha3
    generalize pad (m / 100) 1 = A at *
    generalize pad (m % 100) 2 = B at *
    go_enter Tryd.func6, Tryd.ntmps6
    go_wp2_with fail
    rw [show (m : Int) / 100 = ((m / 100 : Nat) : Int) by omega]
    refine (HA.out _ HT.out).mono ?_
    rintro e w1 ⟨rfl, hb⟩
    have HT1 := Lib.hid (HT.out.below hb)
    have HB1 := Lib.hid hb
    clear hb
    go_wp2_with fail
    rw [show (m : Int) % 100 = ((m % 100 : Nat) : Int) by omega]
    refine (HB.out _ HT1.out).mono ?_
    rintro e w2 ⟨rfl, hb⟩
    have HB2 := Lib.hid (HB1.out.trans (hb.mono HB1.out.size))
    clear hb
    go_wp2_with fail
    go_ret
    exact ⟨by rw [HM.out]; rfl, HB2.out⟩
theorem m_wraps (m : Nat) (h1 : 1 ≤ m) (h : m ≤ 9223372036854775808) : IntKind.i64.wrap (-(m : Int) + 1) = -(m : Int) + 1 ∧ IntKind.i64.wrap (-(-(m : Int) + 1)) = (m : Int) - 1 ∧ IntKind.u64.wrap ((m : Int) - 1) = (m : Int) - 1 ∧ IntKind.u64.wrap ((m : Int) - 1 + 1) = (m : Int) := by
  refine ⟨?_, ?_, ?_, ?_⟩
  · rw [IntKind.wrap_i64]; omega
  · rw [IntKind.wrap_i64]; omega
  · rw [IntKind.wrap_u64]; omega
  · rw [IntKind.wrap_u64]; omega
set_option maxRecDepth 20000 in
set_option maxHeartbeats 1000000 in
theorem rint_calls (c : Int) (h0 : -9223372036854775808 ≤ c) (h1 : c ≤ 9223372036854775807) (w : World) :
    Calls Tryd.prog 29 #[.int .i64 c] w fun e w' => e = .returned (.string (str (Lib.itoa c))) ∧ w' = w := by
  obtain ⟨m, hm⟩ : ∃ m, c.natAbs = m := ⟨_, rfl⟩
  have m1 : m < 18446744073709551616 := by omega
  have HA := Lib.hid (fun W => dec_calls m W m1)
  obtain ⟨_, l1⟩ := dig_len m m1
  have ha1 := add_cat [45] (Lib.decDigits m) (by simp; omega)
  clear l1
  by_cases hneg : c < 0
  · have hc : c = -(m : Int) := by omega
    have HM : Hid (Lib.itoa c = cat [45] (Lib.decDigits m)) := Lib.hid (by unfold Lib.itoa cat; rw [if_pos hneg, hm]; rfl)
    obtain ⟨q1, q2, q3, q4⟩ := m_wraps m (by omega) (by omega)
    subst hc
    clear hm
    generalize Lib.decDigits m = A at *
    go_enter Tryd.func29, Tryd.ntmps29
    go_wp2_with fail
    refine (HA.out _).mono ?_
    rintro e w1 ⟨rfl, rfl⟩
    go_wp2_with fail
    go_ret
    exact ⟨by rw [HM.out]; rfl, rfl⟩
  · have hc : c = (m : Int) := by omega
    have HM : Hid (Lib.itoa c = Lib.decDigits m) := Lib.hid (by unfold Lib.itoa; rw [if_neg hneg]; congr 1; omega)
    subst hc
    have hw : IntKind.u64.wrap (m : Int) = (m : Int) := by rw [IntKind.wrap_u64]; omega
    clear hm ha1
    generalize Lib.decDigits m = A at *
    go_enter Tryd.func29, Tryd.ntmps29
    go_wp2_with fail
    refine (HA.out _).mono ?_
    rintro e w1 ⟨rfl, rfl⟩
    go_wp2_with fail
    go_ret
    exact ⟨by rw [HM.out]; rfl, rfl⟩
set_option maxRecDepth 20000 in
set_option maxHeartbeats 1000000 in
theorem rmoney_calls (c : Int) (h0 : -9223372036854775808 ≤ c) (h1 : c ≤ 9223372036854775807) (w : World) :
    Calls Tryd.prog 7 #[.int .i64 c] w fun e w' => e = .returned (.string (str (moneyL c))) ∧ w' = w := by
  obtain ⟨m, hm⟩ : ∃ m, c.natAbs = m := ⟨_, rfl⟩
  have m1 : m / 100 < 18446744073709551616 := by omega
  have m2 : m % 100 < 100 := by omega
  have HA := Lib.hid (fun W => dec_calls (m / 100) W m1)
  have HB := Lib.hid (fun W => two_calls (m % 100) W m2)
  obtain ⟨_, l1⟩ := dig_len (m / 100) m1
  have l2 := pad_len (m % 100) 2 (by omega) (by decide)
  have HM : Hid (moneyL c = if c < 0 then cat (cat (cat [45] (Lib.decDigits (m / 100))) [46]) (pad (m % 100) 2) else cat (cat (Lib.decDigits (m / 100)) [46]) (pad (m % 100) 2)) := Lib.hid (by
    unfold moneyL cat
    rw [hm]
    split <;> simp)
  have ha1 := add_cat [45] (Lib.decDigits (m / 100)) (by simp; omega)
  have ha2 := add_cat (cat [45] (Lib.decDigits (m / 100))) [46] (by simp [cat_len]; omega)
  have ha3 := add_cat (cat (cat [45] (Lib.decDigits (m / 100))) [46]) (pad (m % 100) 2) (by simp [cat_len]; omega)
  have hb1 := add_cat (Lib.decDigits (m / 100)) [46] (by simp; omega)
  have hb2 := add_cat (cat (Lib.decDigits (m / 100)) [46]) (pad (m % 100) 2) (by simp [cat_len]; omega)
  clear l1 l2 m1 m2
  by_cases hneg : c < 0
  · rw [if_pos hneg] at HM
    have hc : c = -(m : Int) := by omega
    obtain ⟨q1, q2, q3, q4⟩ := m_wraps m (by omega) (by omega)
    subst hc
    clear hm hb1 hb2
    generalize Lib.decDigits (m / 100) = A at *
    generalize pad (m % 100) 2 = B at *
    go_enter Tryd.func7, Tryd.ntmps7
    go_wp2_with fail
    rw [show (m : Int) / 100 = ((m / 100 : Nat) : Int) by omega]
    refine (HA.out _).mono ?_
    rintro e w1 ⟨rfl, rfl⟩
    go_wp2_with fail
    rw [show (m : Int) % 100 = ((m % 100 : Nat) : Int) by omega]
    refine (HB.out _).mono ?_
    rintro e w1 ⟨rfl, rfl⟩
    go_wp2_with fail
    go_ret
    exact ⟨by rw [HM.out]; rfl, rfl⟩
  · rw [if_neg hneg] at HM
    have hc : c = (m : Int) := by omega
    subst hc
    have hw : IntKind.u64.wrap (m : Int) = (m : Int) := by rw [IntKind.wrap_u64]; omega
    clear hm ha1 ha2 ha3
    generalize Lib.decDigits (m / 100) = A at *
    generalize pad (m % 100) 2 = B at *
    go_enter Tryd.func7, Tryd.ntmps7
    go_wp2_with fail
    rw [show (m : Int) / 100 = ((m / 100 : Nat) : Int) by omega]
    refine (HA.out _).mono ?_
    rintro e w1 ⟨rfl, rfl⟩
    go_wp2_with fail
    rw [show (m : Int) % 100 = ((m % 100 : Nat) : Int) by omega]
    refine (HB.out _).mono ?_
    rintro e w1 ⟨rfl, rfl⟩
    go_wp2_with fail
    go_ret
    exact ⟨by rw [HM.out]; rfl, rfl⟩
end Go.Proofs.YtkifkjgkdfnhcaaDoor.Vw
