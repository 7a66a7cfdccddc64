/- The reference's Take: the walk. -/
import Derived.Test.YtadcpdpcpecooaaG9
import Derived.Deep.CutRange
namespace Go.Proofs.Ytadcpdpcpecooaa.Re
open Go.RowKit

set_option maxRecDepth 20000 in
theorem rtake_bad (x : Nat) (S : Int) (w : World) (hg : goodR x = false) :
    Calls Try.prog 69 #[.float .f64 x, .int .i64 S] w fun e' w' => e' = .returned (.tuple #[.int .i64 0, .int .i64 13]) ∧ Below w.heap.size w w' := by
  have HG := Lib.hid (rgood_calls x w)
  rw [hg] at HG
  go_enter Try.func69, Try.ntmps69
  go_wp2_with fail
  refine HG.out.mono ?_
  rintro e w1 ⟨rfl, rfl⟩
  go_wp2_with fail
  go_ret2
  exact ⟨rfl, Below.refl _ _⟩
set_option maxRecDepth 20000 in
theorem rtake_arg (x : Nat) (S : Int) (w : World) (hg : goodR x = true) (hS : S < 1 ∨ 1000000 < S) :
    Calls Try.prog 69 #[.float .f64 x, .int .i64 S] w fun e' w' => e' = .returned (.tuple #[.int .i64 0, .int .i64 1]) ∧ Below w.heap.size w w' := by
  have HG := Lib.hid (rgood_calls x w)
  rw [hg] at HG
  by_cases h1 : S < 1
  · go_enter Try.func69, Try.ntmps69
    go_wp2_with fail
    refine HG.out.mono ?_
    rintro e w1 ⟨rfl, rfl⟩
    go_wp2_with fail
    go_ret2
    exact ⟨rfl, Below.refl _ _⟩
  · have h2 : 1000000 < S := by omega
    go_enter Try.func69, Try.ntmps69
    go_wp2_with fail
    refine HG.out.mono ?_
    rintro e w1 ⟨rfl, rfl⟩
    go_wp2_with fail
    go_ret2
    exact ⟨rfl, Below.refl _ _⟩
theorem beq_one (l : Nat) : ((l : Int) % 2 == 1) = decide (l % 2 = 1) := by
  have : ((l : Int) % 2 = 1) ↔ (l % 2 = 1) := by omega
  simp only [BEq.beq, decide_eq_decide]
  exact this
theorem plus_small (V : Nat) (h : V < 10000000000000) : decide ((10000000000000 : Int) < (V : Int) + 1) = false := by
  rw [decide_eq_false_iff_not]; omega
theorem small_too (V : Nat) (h : V < 10000000000000) : decide ((10000000000000 : Int) < (V : Int)) = false := by
  rw [decide_eq_false_iff_not]; omega
set_option maxRecDepth 20000 in
set_option maxHeartbeats 4000000 in
theorem rtake_gen (x s : Nat) (w : World) (hx : x < 18446744073709551616) (hg : goodR x = true) (hS1 : 1 ≤ s) (hS2 : s ≤ 1000000) (he2 : expo x ≤ 2046) :
    Calls Try.prog 69 #[.float .f64 x, .int .i64 (s : Int)] w fun e' w' => e' = .returned (.tuple #[.int .i64 (tkN x s).1, .int .i64 (tkN x s).2]) ∧ Below w.heap.size w w' := by
  have HG := Lib.hid (rgood_calls x w)
  rw [hg] at HG
  have hbr := bits_run x
  have hb1 : bits .and .u64 ((x : Int) / 4503599627370496) 2047 = ((x / 4503599627370496 % 2048 : Nat) : Int) := and11 (x / 4503599627370496) (by omega)
  have hb2 := and52 x hx
  have hE : expo x = if x / 4503599627370496 % 2048 = 0 then 1 else x / 4503599627370496 % 2048 := by unfold expo; split <;> omega
  have hM : mant x = if x / 4503599627370496 % 2048 = 0 then x % 4503599627370496 else 4503599627370496 + x % 4503599627370496 := rfl
  obtain ⟨E, hEE⟩ : ∃ E, x / 4503599627370496 % 2048 = E := ⟨_, rfl⟩
  obtain ⟨F, hFF⟩ : ∃ E, x % 4503599627370496 = E := ⟨_, rfl⟩
  have hF : F < 4503599627370496 := by omega
  have hEb : E < 2048 := by omega
  rw [hEE] at hb1 hE hM
  rw [hFF] at hb2 hM
  have HT := Lib.hid (show tkN x s = if 1075 ≤ expo x then ((0, 14) : Int × Int) else if 10000000000000 < rnd (mant x * s) (1075 - expo x) then (0, 14) else ((rnd (mant x * s) (1075 - expo x) : Int), 0) from rfl)
  have hml := mant_lt x
  generalize tkN x s = tr at *
  generalize expo x = ex at *
  generalize mant x = m at *
  have HM := Lib.hid hM
  have HE := Lib.hid hE
  clear hM hE hEE hFF
  go_enter Try.func69, Try.ntmps69
  go_wp2_with fail
  refine HG.out.mono ?_
  rintro e w1 ⟨rfl, rfl⟩
  go_upto_if 34 with fail
  go_cut [7, 8] from 33 to 36 (fun a b W => a = .int .i64 (ex : Int) ∧ b = .int .u64 (m : Int) ∧ W = w1)
  case first =>
    by_cases h0 : E = 0
    · subst h0
      have h1 := HE.out
      have h2 := HM.out
      rw [if_pos rfl] at h1 h2
      subst h1
      subst h2
      go_wp2_with fail
      go_meet
      case rel => exact ⟨rfl, rfl, rfl⟩
    · have h1 := HE.out
      have h2 := HM.out
      rw [if_neg h0] at h1 h2
      subst h1
      subst h2
      go_wp2_with fail
      go_meet
      case rel => exact ⟨rfl, by rw [Int.natCast_add, Int.add_comm]; rfl, rfl⟩
  case rest =>
    obtain ⟨rfl, rfl, rfl⟩ := hcut
    have HR := Lib.hid (fun W => rmul_calls m s W (by omega) (by omega))
    go_wp2_with fail
    refine (HR.out _).mono ?_
    rintro e w2 ⟨rfl, b2⟩
    have hmh : m * s / 18446744073709551616 < 18446744073709551616 := by
      have := prod_lt m s hml hS2
      omega
    have hll : m * s % 18446744073709551616 < 18446744073709551616 := Nat.mod_lt _ (by decide)
    have hbig : 1075 ≤ ex → 0 < m * s / 18446744073709551616 ∨ 10000000000000 < m * s % 18446744073709551616 := by
      intro c
      have h1 := HE.out
      have h2 := HM.out
      have h0 : E ≠ 0 := by
        intro h0
        rw [if_pos h0] at h1
        omega
      rw [if_neg h0] at h2
      have := Nat.mul_le_mul (show 4503599627370496 ≤ m by omega) hS1
      omega
    have hP := Lib.hid (prod_lt m s hml hS2)
    generalize m * s = P at *
    obtain ⟨H, hH⟩ : ∃ H, P / 18446744073709551616 = H := ⟨_, rfl⟩
    obtain ⟨L, hL⟩ : ∃ H, P % 18446744073709551616 = H := ⟨_, rfl⟩
    rw [hH] at hbig hmh ⊢
    rw [hL] at hbig hll ⊢
    have hn := heap_alloc_new w2 (.cells #[.int .u64 (H : Int), .int .u64 (L : Int)] 106)
    have HN := Lib.hid hn
    have c0 : (w2.alloc (.cells #[.int .u64 (H : Int), .int .u64 (L : Int)] 106)).cell? ⟨w2.heap.size, 0, none⟩ = some (.int .u64 (H : Int)) := cell_of_row _ _ 0 _ _ _ hn
    have c1 : (w2.alloc (.cells #[.int .u64 (H : Int), .int .u64 (L : Int)] 106)).cell? ⟨w2.heap.size, 1, none⟩ = some (.int .u64 (L : Int)) := cell_of_row _ _ 1 _ _ _ hn
    have HB2 := Lib.hid b2
    have HBL := Lib.hid (b2.alloc b2.size (.cells #[.int .u64 (H : Int), .int .u64 (L : Int)] 106))
    clear b2 HM HE hb1 hb2 hF hEb hn
    by_cases hbg : 1075 ≤ ex
    · have hbig := hbig hbg
      have ht := HT.out
      rw [if_pos hbg] at ht
      subst ht
      clear HT
      rcases Nat.eq_or_lt_of_le hbg with he | he
      · subst he
        rcases Nat.eq_zero_or_pos H with h0 | h0
        · subst h0
          go_wp2_with fail
          go_loopw [11] (fun i wr => i = .int .i64 0 ∧ wr = w2.alloc (.cells #[.int .u64 0, .int .u64 (L : Int)] 106)) (fun _ _ => 0)
          case atStart => exact ⟨rfl, rfl⟩
          case round =>
            obtain ⟨rfl, rfl⟩ := hrel
            go_wp2_with fail
            go_ret2
            exact ⟨rfl, HBL.out⟩
        · go_wp2_with fail
          go_loopw [11] (fun i wr => i = .int .i64 0 ∧ wr = w2.alloc (.cells #[.int .u64 (H : Int), .int .u64 (L : Int)] 106)) (fun _ _ => 0)
          case atStart => exact ⟨rfl, rfl⟩
          case round =>
            obtain ⟨rfl, rfl⟩ := hrel
            go_wp2_with fail
            go_ret2
            exact ⟨rfl, HBL.out⟩
      · rcases Nat.eq_zero_or_pos H with h0 | h0
        · subst h0
          go_wp2_with fail
          go_loopw [11] (fun i wr => i = .int .i64 0 ∧ wr = w2.alloc (.cells #[.int .u64 0, .int .u64 (L : Int)] 106)) (fun _ _ => 0)
          case atStart => exact ⟨rfl, rfl⟩
          case round =>
            obtain ⟨rfl, rfl⟩ := hrel
            go_wp2_with fail
            go_ret2
            exact ⟨rfl, HBL.out⟩
        · go_wp2_with fail
          go_loopw [11] (fun i wr => i = .int .i64 0 ∧ wr = w2.alloc (.cells #[.int .u64 (H : Int), .int .u64 (L : Int)] 106)) (fun _ _ => 0)
          case atStart => exact ⟨rfl, rfl⟩
          case round =>
            obtain ⟨rfl, rfl⟩ := hrel
            go_wp2_with fail
            go_ret2
            exact ⟨rfl, HBL.out⟩
    · have ht := HT.out
      rw [if_neg hbg] at ht
      have HT2 := Lib.hid ht
      clear ht HT hbig
      go_wp2_with fail
      go_loopw [14, 12, 13] (fun i h r wr => ∃ k : Nat, k ≤ 1075 - ex ∧ k ≤ 200 ∧ i = .int .i64 (k : Int) ∧ h = .bool (hfB P k) ∧ r = .bool (rsB P k) ∧ wr.heap[w2.heap.size]? = some (.cells #[.int .u64 ((P / 2 ^ k / 18446744073709551616 : Nat) : Int), .int .u64 ((P / 2 ^ k % 18446744073709551616 : Nat) : Int)] 106 (0, 0)) ∧ Below wc.heap.size wc wr) (fun i _ _ _ => 200 - (intOf i).toNat)
      case atStart =>
        refine ⟨0, by omega, by omega, rfl, rfl, rfl, ?_, HBL.out⟩
        simp only [Nat.pow_zero, Nat.div_one]
        rw [hH, hL]
        exact HN.out
      case round =>
        obtain ⟨k, hk1, hk2, rfl, rfl, rfl, hn, hb⟩ := hrel
        have hi1 := half_nat P k
        have hi2 := half_hi (P / 2 ^ k)
        have hi3 := half_lo (P / 2 ^ k)
        have hi4 := hf_next P k
        have hi5 := rs_next P k
        have hh : P / 2 ^ k / 18446744073709551616 < 18446744073709551616 := by
          have h1 := Nat.div_le_self P (2 ^ k)
          have h2 := hP.out
          omega
        have hl : P / 2 ^ k % 18446744073709551616 < 18446744073709551616 := Nat.mod_lt _ (by decide)
        clear c0 c1
        by_cases d1 : k < 1075 - ex
        · by_cases d2 : k < 200
          · obtain ⟨h, ehh⟩ : ∃ h, P / 2 ^ k / 18446744073709551616 = h := ⟨_, rfl⟩
            obtain ⟨l, ell⟩ : ∃ h, P / 2 ^ k % 18446744073709551616 = h := ⟨_, rfl⟩
            rw [ehh] at hi2 hi3 hh hn
            rw [ell] at hi3 hi4 hl hn
            rw [← hi1] at hi2 hi3
            obtain ⟨b1, eb1⟩ : ∃ b, hfB P k = b := ⟨_, rfl⟩
            obtain ⟨b2, eb2⟩ : ∃ b, rsB P k = b := ⟨_, rfl⟩
            rw [eb1, eb2] at hi5 ⊢
            have Hi2 := Lib.hid hi2
            have Hi3 := Lib.hid hi3
            have Hi4 := Lib.hid hi4
            have Hi5 := Lib.hid hi5
            have Hb := Lib.hid hb
            have Hn := Lib.hid hn
            have k0 : wr.cell? ⟨w2.heap.size, 0, none⟩ = some (.int .u64 (h : Int)) := cell_of_row _ _ 0 _ _ _ hn
            have k1 : wr.cell? ⟨w2.heap.size, 1, none⟩ = some (.int .u64 (l : Int)) := cell_of_row _ _ 1 _ _ _ hn
            have y0 : wr.frozen? ⟨w2.heap.size, 0, none⟩ = false := frozen_of_row _ _ 0 _ _ hn
            have y1 : wr.frozen? ⟨w2.heap.size, 1, none⟩ = false := frozen_of_row _ _ 1 _ _ hn
            clear hi1 hi2 hi3 hi4 hi5 hb hn ehh ell eb1 eb2 hH hL HR HG
            cases b2
            all_goals
              go_wp2_with fail
              refine ⟨⟨k + 1, by omega, by omega, by rw [Int.natCast_add]; rfl, ?_, ?_, ?_, ?_⟩, by simp [intOf]; omega⟩
              · rw [Hi4.out]
                congr 1
                exact beq_one l
              · rw [Hi5.out]
                simp
              · have q := heap_setCell_same _ _ 0 _ 106 (.int .u64 ((h : Int) / 2)) (heap_setCell_same _ _ 1 _ 106 (.int .u64 ((l : Int) / 2 + (h : Int) % 2 * 9223372036854775808)) Hn.out)
                rw [Hi2.out, Hi3.out]
                exact q
              · exact below_set2 Hb.out HB2.out.size 1 0 _ _
          · obtain rfl : k = 200 := by omega
            have hz : P / 2 ^ 200 = 0 := Nat.div_eq_of_lt (Nat.lt_trans hP.out (by decide))
            have hr : rnd P (1075 - ex) = 0 := rnd_nil P _ (by omega) (by
              have h1 := hP.out
              have : 2 ^ 73 ≤ 2 ^ (1075 - ex - 1) := Nat.pow_le_pow_right (by decide) (by omega)
              omega)
            have ht := HT2.out
            rw [hr, if_neg (by decide)] at ht
            subst ht
            rw [hz] at hn
            have k0 : wr.cell? ⟨w2.heap.size, 0, none⟩ = some (.int .u64 0) := cell_of_row _ _ 0 _ _ _ hn
            have k1 : wr.cell? ⟨w2.heap.size, 1, none⟩ = some (.int .u64 0) := cell_of_row _ _ 1 _ _ _ hn
            have Hb := Lib.hid hb
            clear hi1 hi2 hi3 hi4 hi5 hb hn hh hl hz hr hH hL
            go_wp2_with fail
            go_ret2
            exact ⟨rfl, Hb.out⟩
        · obtain rfl : k = 1075 - ex := by omega
          have ht := HT2.out
          rw [rnd_bits P _ (by omega)] at ht
          obtain ⟨b1, eb1⟩ : ∃ b, hfB P (1075 - ex) = b := ⟨_, rfl⟩
          obtain ⟨b2, eb2⟩ : ∃ b, rsB P (1075 - ex) = b := ⟨_, rfl⟩
          rw [eb1, eb2] at ht ⊢
          generalize P / 2 ^ (1075 - ex) = V at *
          clear hi1 hi2 hi3 hi4 hi5 hH hL eb1 eb2 HT2
          obtain ⟨h, ehh⟩ : ∃ h, V / 18446744073709551616 = h := ⟨_, rfl⟩
          obtain ⟨l, ell⟩ : ∃ h, V % 18446744073709551616 = h := ⟨_, rfl⟩
          rw [ehh, ell] at hn
          rw [ehh] at hh
          rw [ell] at hl
          have k0 : wr.cell? ⟨w2.heap.size, 0, none⟩ = some (.int .u64 (h : Int)) := cell_of_row _ _ 0 _ _ _ hn
          have k1 : wr.cell? ⟨w2.heap.size, 1, none⟩ = some (.int .u64 (l : Int)) := cell_of_row _ _ 1 _ _ _ hn
          have Hb := Lib.hid hb
          clear hb hn
          rcases Nat.eq_zero_or_pos h with q | q
          · subst q
            obtain rfl : V = l := by omega
            clear ehh ell hh
            by_cases q2 : 10000000000000 < V
            · have e1 : (if b1 = true ∧ (b2 = true ∨ V % 2 = 1) then V + 1 else V) > 10000000000000 := by split <;> omega
              rw [if_pos e1] at ht
              subst ht
              clear e1
              go_wp2_with fail
              go_ret2
              exact ⟨rfl, Hb.out⟩
            · have hp := beq_one V
              have hV2 := Nat.mod_two_eq_zero_or_one V
              by_cases q3 : V = 10000000000000
              · subst q3
                cases b1 <;> cases b2
                all_goals
                  simp at ht
                  subst ht
                  go_wp2_with fail
                  go_ret2
                  exact ⟨rfl, Hb.out⟩
              · rcases hV2 with q4 | q4
                · rw [q4] at hp ht
                  have hp2 : ((V : Int) % 2 == 1) = false := by rw [hp]; rfl
                  have q5 : (V : Int) % 2 = 0 := by omega
                  cases b1 <;> cases b2
                  all_goals
                    simp at ht
                    rw [if_neg (by omega)] at ht
                    subst ht
                    have q6 : V < 10000000000000 := by omega
                    have Q6 := Lib.hid q6
                    clear hp q4 q5 q3 q6
                    go_upto_if 134 with fail
                    clear hp2 q2
                    have hd : decide ((10000000000000 : Int) < (V : Int) + 1) = false := plus_small V Q6.out
                    have hd2 : decide ((10000000000000 : Int) < (V : Int)) = false := small_too V Q6.out
                    try rw [hd]
                    try rw [hd2]
                    clear hd hd2
                    go_wp2_with fail
                    go_ret2
                    exact ⟨by first | rfl | simp, Hb.out⟩
                · rw [q4] at hp ht
                  have hp2 : ((V : Int) % 2 == 1) = true := by rw [hp]; rfl
                  have q5 : (V : Int) % 2 = 1 := by omega
                  cases b1 <;> cases b2
                  all_goals
                    simp at ht
                    rw [if_neg (by omega)] at ht
                    subst ht
                    have q6 : V < 10000000000000 := by omega
                    have Q6 := Lib.hid q6
                    clear hp q4 q5 q3 q6
                    go_upto_if 134 with fail
                    clear hp2 q2
                    have hd : decide ((10000000000000 : Int) < (V : Int) + 1) = false := plus_small V Q6.out
                    have hd2 : decide ((10000000000000 : Int) < (V : Int)) = false := small_too V Q6.out
                    try rw [hd]
                    try rw [hd2]
                    clear hd hd2
                    go_wp2_with fail
                    go_ret2
                    exact ⟨by first | rfl | simp, Hb.out⟩
          · have hV : 10000000000000 < V := by omega
            have e1 : (if b1 = true ∧ (b2 = true ∨ V % 2 = 1) then V + 1 else V) > 10000000000000 := by split <;> omega
            rw [if_pos e1] at ht
            subst ht
            clear e1 ehh ell
            go_wp2_with fail
            go_ret2
            exact ⟨rfl, Hb.out⟩
/-- The reference's Take, of any word and any scale. -/
theorem rtake_all (x : Nat) (S : Int) (w : World) (hx : x < 18446744073709551616) :
    Calls Try.prog 69 #[.float .f64 x, .int .i64 S] w fun e' w' => e' = .returned (.tuple #[.int .i64 (tk x S).1, .int .i64 (tk x S).2]) ∧ Below w.heap.size w w' := by
  unfold tk
  rcases Bool.eq_false_or_eq_true (goodR x) with hg | hg
  · rw [if_neg (by rw [hg]; decide)]
    by_cases hS : S < 1 ∨ 1000000 < S
    · rw [if_pos hS]
      exact rtake_arg x S w hg hS
    · rw [if_neg hS]
      obtain ⟨s, rfl⟩ : ∃ s : Nat, S = (s : Int) := ⟨S.toNat, by omega⟩
      rw [show ((s : Int)).toNat = s by omega]
      refine rtake_gen x s w hx hg (by omega) (by omega) ?_
      rcases good_cases x hx hg with rfl | ⟨e, f, h1, h2, rfl⟩
      · unfold expo; omega
      · unfold expo; omega
  · rw [if_pos hg]
    exact rtake_bad x S w hg
end Go.Proofs.Ytadcpdpcpecooaa.Re
