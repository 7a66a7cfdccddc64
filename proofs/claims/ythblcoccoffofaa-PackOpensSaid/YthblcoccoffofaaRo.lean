/- What the reference's Opener answers, as plain facts on the printed functions. -/
import Derived.Test.YthblcoccoffofaaPPackOpensx2
import Derived.Test.YthblcoccoffofaaBp
namespace Go.Proofs.Ythblcoccoffofaa.Pk
open Go.RowKit Go.Proofs.YthblcoccoffofaaW.PrintWords PPackOpens

theorem ints_extract (s : ByteArray) (a b : Nat) : ints (s.extract a b) = ((ints s).drop a).take (b - a) := by
  unfold ints
  rw [Lib.extract_data, List.map_take, List.map_drop]
theorem bt_ints (s : ByteArray) (i : Nat) : bt s (i : Int) = (ints s).getD i 0 := by
  unfold bt ints
  rw [Int.toNat_natCast]
  by_cases h : i < s.size
  · rw [dif_pos h]
    have h' : i < s.data.size := h
    simp [List.getD_eq_getElem?_getD, Array.getElem?_eq_getElem h']
    rfl
  · rw [dif_neg h]
    have h' : s.data.size ≤ i := by have : s.data.size = s.size := rfl; omega
    simp [List.getD_eq_getElem?_getD, Array.getElem?_eq_none h']

theorem ext2 (S : ByteArray) (a i j : Nat) (h : a + j ≤ S.size) : (S.extract a S.size).extract i j = S.extract (a + i) (a + j) := by
  apply ByteArray.ext
  apply Array.ext'
  rw [Lib.extract_data, Lib.extract_data, Lib.extract_data, List.drop_take, List.drop_drop, List.take_take]
  congr 1
  omega
theorem emp : (⟨#[]⟩ : ByteArray) = ByteArray.empty := rfl
/-- The reference's state against ours. -/
def RS (st : Option ByteArray) (S : ByteArray) (A : Int) (bad : Bool) : Prop :=
  match bad with
  | true => st = none
  | false => ∃ a : Nat, A = a ∧ a ≤ S.size ∧ st = some (S.extract a S.size)

theorem w64 (x : Int) (h : -9223372036854775808 ≤ x ∧ x ≤ 9223372036854775807) : wrap64 x = x := IntWalk.wrap64_in x h

theorem l0_eval (S : ByteArray) (hS : S.size ≤ 1000000) (n a : Nat) (hn : n ≤ 8) (ha : a + n ≤ S.size) (bad : Bool) (L : List Int) (hL : L = ((ints S).drop a).take n) : ∀ (m k : Nat) (v : Int), m ≤ n → m < k → 0 ≤ v → v < 256 ^ (n - m) →
    annuityref08_Opener_Num.l0 k n v ((m : Int) - 1) S a bad = some (valOf (L.take m) + 256 ^ m * v, S, ((a + n : Nat) : Int), bad) := by
  intro m
  induction m with
  | zero =>
    intro k v _ hk hv0 hv
    obtain ⟨k, rfl⟩ : ∃ j, k = j + 1 := ⟨k - 1, by omega⟩
    simp only [annuityref08_Opener_Num.l0]
    rw [if_neg (by omega), w64 _ (by omega)]
    simp [valOf]
  | succ m ih =>
    intro k v hm hk hv0 hv
    obtain ⟨k, rfl⟩ : ∃ j, k = j + 1 := ⟨k - 1, by omega⟩
    have e1 : ((m + 1 : Nat) : Int) - 1 = (m : Int) := by omega
    have e2 : wrap64 ((a : Int) + (m : Int)) = ((a + m : Nat) : Int) := by rw [w64 _ (by omega)]; omega
    have hlen : L.length = n := by rw [hL, List.length_take, List.length_drop, ints_length]; omega
    have hb : (ints S).getD (a + m) 0 = L[m]'(by omega) := by
      rw [List.getD_eq_getElem?_getD]
      simp [hL]
      rw [List.getElem?_eq_getElem (by rw [ints_length]; omega)]
      rfl
    have hbr : 0 ≤ L[m]'(by omega) ∧ L[m]'(by omega) < 256 := ints_range S _ (List.mem_of_mem_drop (List.mem_of_mem_take (by rw [← hL]; exact List.getElem_mem _)))
    have hp : (256 : Int) ^ (n - m) = 256 ^ (n - (m + 1)) * 256 := by rw [← Int.pow_succ]; congr 1; omega
    have hp8 : (256 : Int) ^ (n - m) ≤ 18446744073709551616 := by
      have : (256 : Nat) ^ (n - m) ≤ 256 ^ 8 := Nat.pow_le_pow_right (by omega) (by omega)
      have h2 : ((256 ^ (n - m) : Nat) : Int) ≤ ((256 ^ 8 : Nat) : Int) := Int.ofNat_le.2 this
      simpa using h2
    rw [e1]
    simp only [annuityref08_Opener_Num.l0]
    rw [if_pos (by omega), e2, if_pos (by omega), if_pos (by omega), bt_ints, hb, w64 _ (by omega)]
    generalize hq : (256 : Int) ^ (n - (m + 1)) = q at hv hp
    rw [hp] at hp8
    have e3 : IntKind.u64.wrap (IntKind.u64.wrap (v * 256) + IntKind.u64.wrap (L[m]'(by omega))) = v * 256 + L[m]'(by omega) := by
      rw [IntKind.wrap_u64, IntKind.wrap_u64, IntKind.wrap_u64]
      omega
    rw [e3, ih k (v * 256 + L[m]'(by omega)) (by omega) (by omega) (by omega) (by rw [hp]; omega)]
    have e4 : L.take (m + 1) = L.take m ++ [L[m]'(by omega)] := List.take_succ_eq_append_getElem (by omega)
    have e5 : (L.take m).length = m := by rw [List.length_take]; omega
    rw [e4, valOf_snoc, e5, Int.pow_succ]
    congr 2
    rw [Int.mul_add, Int.mul_assoc, Int.mul_comm 256 v]
    omega

theorem rsized_eval (n : Int) : annuityref08_sized.f n = some (szB n) := by
  unfold annuityref08_sized.f szB
  by_cases h1 : n = 1
  · simp [h1]
  · by_cases h2 : n = 2
    · simp [h2]
    · by_cases h4 : n = 4
      · simp [h4]
      · simp [h1, h2, h4]

theorem rnum_eval (st : Option ByteArray) (S : ByteArray) (A : Int) (bad : Bool) (n : Int) (hS : S.size ≤ 1000000) (h : RS st S A bad) :
    ∃ k A' bad', annuityref08_Opener_Num.f k S A bad n = some ((numR st n).1, S, A', bad') ∧ RS (numR st n).2 S A' bad' := by
  unfold annuityref08_Opener_Num.f
  cases bad with
  | true =>
    obtain rfl : st = none := h
    exact ⟨1, A, true, by simp [annuityref08_Opener_Num.j0, numR], rfl⟩
  | false =>
    obtain ⟨a, rfl, ha, rfl⟩ := h
    simp only [Bool.false_eq_true, if_false, rsized_eval, Option.bind_some, numR]
    have hsz : (S.extract a S.size).size = S.size - a := by simp [ByteArray.size_extract]
    by_cases hs : szB n = true
    · simp only [if_pos hs]
      obtain ⟨m, rfl⟩ := Int.eq_ofNat_of_zero_le (show 0 ≤ n by have := (szB_iff n).1 hs; omega)
      have hm := (szB_iff (m : Int)).1 hs
      rw [w64 _ (by omega), hsz, Int.toNat_natCast]
      by_cases hle : m ≤ S.size - a
      · rw [if_pos ⟨hs, by omega⟩]
        have hd : decide ((m : Int) > (S.size : Int) - (a : Int)) = false := decide_eq_false (by omega)
        rw [hd]
        refine ⟨m + 2, ((a + m : Nat) : Int), false, ?_, ⟨a + m, rfl, by omega, ?_⟩⟩
        · simp only [annuityref08_Opener_Num.j0, Bool.false_eq_true, if_false]
          rw [w64 _ (by omega), l0_eval S hS m a (by omega) (by omega) false (((ints S).drop a).take m) rfl m (m + 1) 0 (Nat.le_refl _) (by omega) (by omega) (by simp)]
          rw [ext2 S a 0 m (by omega), ints_extract, Int.mul_zero, Int.add_zero, Nat.add_zero, show a + m - a = m by omega, List.take_take, Nat.min_self]
        · show some _ = some _
          rw [show S.size - a = (S.size - a) from rfl, ext2 S a m (S.size - a) (by omega), show a + (S.size - a) = S.size by omega]
      · rw [if_neg (fun h => hle (by omega))]
        have hd : decide ((m : Int) > (S.size : Int) - (a : Int)) = true := decide_eq_true (by omega)
        rw [hd]
        exact ⟨1, a, true, by simp [annuityref08_Opener_Num.j0], rfl⟩
    · simp only [if_neg hs]
      rw [if_neg (fun h => hs h.1)]
      exact ⟨1, a, true, by simp [annuityref08_Opener_Num.j0], rfl⟩

theorem w_1 (a z : Nat) (hz : z ≤ 1000000) (ha : a + 2 ≤ z) : wrap64 ((a : Int) + 1) = ((a + 1 : Nat) : Int) := by rw [w64 _ (by omega)]; omega
theorem w_2 (b0 b1 : Int) (r0 : 0 ≤ b0 ∧ b0 ≤ 255) (r1 : 0 ≤ b1 ∧ b1 ≤ 255) : wrap64 (wrap64 b0 + wrap64 (256 * wrap64 b1)) = b0 + 256 * b1 := by
  rw [w64 b1 (by omega), w64 b0 (by omega), w64 (256 * b1) (by omega), w64 _ (by omega)]
theorem w_3 (a z : Nat) (hz : z ≤ 1000000) (ha : a + 2 ≤ z) : wrap64 ((z : Int) - (a : Int)) = (z : Int) - a := w64 _ (by omega)
theorem w_4 (a z : Nat) (hz : z ≤ 1000000) (ha : a + 2 ≤ z) : wrap64 ((z : Int) - (a : Int) - 2) = (z : Int) - a - 2 := w64 _ (by omega)
theorem w_5 (a N : Nat) (ha : a ≤ 1000000) (hN : N ≤ 65535) : wrap64 ((a : Int) + wrap64 (2 + (N : Int))) = ((a + 2 + N : Nat) : Int) := by
  rw [w64 (2 + (N : Int)) (by omega), w64 _ (by omega)]
  omega
theorem w_6 (a N : Nat) (ha : a ≤ 1000000) (hN : N ≤ 65535) : wrap64 (((a + 2 + N : Nat) : Int) - (N : Int)) = ((a + 2 : Nat) : Int) := by
  rw [w64 _ (by omega)]
  omega
set_option maxHeartbeats 40000 in
theorem text_step (S : ByteArray) (z : Nat) (hz : S.size = z) (hS : z ≤ 1000000) (a : Nat) (ha : a + 2 ≤ z) (most b0 b1 : Int) 
    (r0 : 0 ≤ b0 ∧ b0 ≤ 255) (r1 : 0 ≤ b1 ∧ b1 ≤ 255) (N : Nat) (hN : b0 + 256 * b1 = N) (hN2 : N ≤ 65535) (k : Nat) : bt S a = b0 → bt S ((a + 1 : Nat) : Int) = b1 → 
    annuityref08_Opener_Text.j0 (k + 1) most false S a false =
      if (N : Int) > most then some (⟨#[]⟩, S, (a : Int), true)
      else if (N : Int) > (z : Int) - a - 2 then some (⟨#[]⟩, S, (a : Int), true)
      else some (S.extract (a + 2) (a + 2 + N), S, ((a + 2 + N : Nat) : Int), false) := by
  have ha3 : a ≤ 1000000 := by omega
  have q2 : ((a + 2 : Nat) : Int) ≤ ((a + 2 + N : Nat) : Int) := by omega
  have q3 : (¬ (N : Int) > (z : Int) - a - 2) → ((a + 2 + N : Nat) : Int) ≤ (z : Int) := fun _ => by omega
  have g1 : (0 : Int) ≤ (a : Int) := Int.natCast_nonneg a
  have g2 : (a : Int) < (z : Int) := by omega
  have g3 : (0 : Int) ≤ ((a + 1 : Nat) : Int) := Int.natCast_nonneg _
  have g4 : ((a + 1 : Nat) : Int) < (z : Int) := by omega
  have e4 := w_1 a z hS ha
  have e5 := w_2 b0 b1 r0 r1
  have e6 := w_3 a z hS ha
  have e7 := w_4 a z hS ha
  have f1 := w_5 a N ha3 hN2
  have f2 := w_6 a N ha3 hN2
  have q1 : (0 : Int) ≤ ((a + 2 : Nat) : Int) := Int.natCast_nonneg _
  intro hb0 hb1
  rw [annuityref08_Opener_Text.j0, if_neg (by decide), hz]
  rw [e4, hb0, hb1, e5, hN, e6, e7, if_pos g1, if_pos g2, if_pos g3, if_pos g4]
  by_cases c1 : (N : Int) > most
  · rw [if_pos c1, if_pos c1]
  · rw [if_neg c1, if_neg c1]
    by_cases c2 : (N : Int) > (z : Int) - a - 2
    · rw [if_pos c2, if_pos c2]
    · rw [if_neg c2, if_neg c2, f1, f2]
      rw [if_pos q1, if_pos q2, if_pos (q3 c2), Int.toNat_natCast, Int.toNat_natCast]
set_option maxHeartbeats 100000 in
theorem rtext_eval (st : Option ByteArray) (S : ByteArray) (A : Int) (bad : Bool) (most : Int) (hS : S.size ≤ 1000000) (h : RS st S A bad) :
    ∃ k A' bad', annuityref08_Opener_Text.f k S A bad most = some ((textR st most).1, S, A', bad') ∧ RS (textR st most).2 S A' bad' := by
  unfold annuityref08_Opener_Text.f
  cases bad with
  | true =>
    obtain rfl : st = none := h
    exact ⟨1, A, true, by simp [annuityref08_Opener_Text.j0, textR]; rfl, rfl⟩
  | false =>
    obtain ⟨a, rfl, ha, rfl⟩ := h
    have hsz : (S.extract a S.size).size = S.size - a := by simp [ByteArray.size_extract]
    simp only [Bool.false_eq_true, if_false, textR]
    rw [w64 _ (by omega), hsz]
    by_cases h2 : S.size - a < 2
    · rw [if_pos h2]
      have hd : decide ((S.size : Int) - (a : Int) < 2) = true := decide_eq_true (by omega)
      rw [hd]
      exact ⟨1, a, true, by simp [annuityref08_Opener_Text.j0]; rfl, rfl⟩
    · rw [if_neg h2]
      have hd : decide ((S.size : Int) - (a : Int) < 2) = false := decide_eq_false (by omega)
      rw [hd]
      have e1 : (S.extract a S.size).extract 0 2 = S.extract a (a + 2) := ext2 S a 0 2 (by omega)
      have e2 : (S.extract a S.size).extract 2 (S.size - a) = S.extract (a + 2) S.size := by
        rw [ext2 S a 2 (S.size - a) (by omega), show a + (S.size - a) = S.size by omega]
      have hil : (ints S).length = S.size := ints_length S
      have e3 : valOf (ints (S.extract a (a + 2))) = bt S a + 256 * bt S ((a + 1 : Nat) : Int) := by
        have hl2 : ints (S.extract a (a + 2)) = [(ints S).getD a 0, (ints S).getD (a + 1) 0] := by
          have h0 : a < (ints S).length := by omega
          have h1 : a + 1 < (ints S).length := by omega
          rw [ints_extract, show a + 2 - a = 2 by omega, List.drop_eq_getElem_cons h0, List.drop_eq_getElem_cons h1, List.getD_eq_getElem?_getD, List.getD_eq_getElem?_getD, List.getElem?_eq_getElem h0, List.getElem?_eq_getElem h1]
          rfl
        rw [hl2, bt_ints, bt_ints]
        simp [valOf]
      have r0 := bt_range S a
      have r1 := bt_range S ((a + 1 : Nat) : Int)
      rw [e1, e2, e3]
      have hsz2 : (S.extract (a + 2) S.size).size = S.size - (a + 2) := by simp [ByteArray.size_extract]
      rw [hsz2]
      generalize hb0 : bt S (a : Int) = b0 at r0
      generalize hb1 : bt S ((a + 1 : Nat) : Int) = b1 at r1
      obtain ⟨N, hN⟩ : ∃ N : Nat, b0 + 256 * b1 = N := ⟨(b0 + 256 * b1).toNat, by omega⟩
      rw [hN, Int.toNat_natCast]
      have hN2 : N ≤ 65535 := by omega
      have step := fun k => text_step S S.size rfl hS a (by omega) most b0 b1 r0 r1 N hN hN2 k hb0 hb1
      clear hsz hil e3 hd
      by_cases c1 : most < (N : Int)
      · rw [if_pos c1]
        refine ⟨1, a, true, ?_, (show (none : Option ByteArray) = none from rfl)⟩
        rw [step, if_pos c1, emp]
      · rw [if_neg c1]
        by_cases c2 : ((S.size - (a + 2) : Nat) : Int) < (N : Int)
        · rw [if_pos c2]
          refine ⟨1, a, true, ?_, (show (none : Option ByteArray) = none from rfl)⟩
          rw [step, if_neg c1, if_pos (by omega), emp]
        · rw [if_neg c2]
          have f1 : (S.extract (a + 2) S.size).extract 0 N = S.extract (a + 2) (a + 2 + N) := ext2 S (a + 2) 0 N (by omega)
          have f2 : (S.extract (a + 2) S.size).extract N (S.size - (a + 2)) = S.extract (a + 2 + N) S.size := by
            rw [ext2 S (a + 2) N (S.size - (a + 2)) (by omega), show a + 2 + (S.size - (a + 2)) = S.size by omega]
          rw [f1, f2]
          refine ⟨1, ((a + 2 + N : Nat) : Int), false, ?_, (show ∃ a' : Nat, _ = (a' : Int) ∧ a' ≤ S.size ∧ some (S.extract (a + 2 + N) S.size) = some (S.extract a' S.size) from ⟨a + 2 + N, rfl, by omega, rfl⟩)⟩
          rw [step, if_neg c1, if_neg (by omega)]
theorem rdone_eval (st : Option ByteArray) (S : ByteArray) (A : Int) (bad : Bool) (h : RS st S A bad) :
    annuityref08_Opener_Done.f S A bad = some (doneB st, S, A, bad) := by
  unfold annuityref08_Opener_Done.f
  cases bad with
  | true =>
    obtain rfl : st = none := h
    rfl
  | false =>
    obtain ⟨a, rfl, ha, rfl⟩ := h
    have hsz : (S.extract a S.size).size = S.size - a := by simp [ByteArray.size_extract]
    simp only [Bool.false_eq_true, if_false, doneB, hsz]
    congr 2
    rw [Bool.eq_iff_iff]
    simp
    omega
end Go.Proofs.Ythblcoccoffofaa.Pk
