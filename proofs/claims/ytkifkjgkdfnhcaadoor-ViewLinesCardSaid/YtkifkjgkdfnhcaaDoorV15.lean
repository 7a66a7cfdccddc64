/- ViewWords' and the others' closed sample. (Printed by gen_v15.py.) -/
import Derived.Test.YtkifkjgkdfnhcaaDoorV14
namespace Go.Proofs.YtkifkjgkdfnhcaaDoor.Vw
open Go.RowKit Go.Sort Go.Lib Go.Shelf

abbrev l0 : Ln := ⟨3, 12345, 2500000, 0, 0, 50000, false, 5, 0, 0, 0, 0, 7⟩
theorem l0_ok : OkLn l0 := ⟨by decide, by decide, by decide, by decide, by decide, by decide, by decide, by decide, by decide, by decide, by decide, by decide⟩
theorem l0_good : goodLn l0 = true := by decide
theorem l0_owes : owesO l0 = some 12347 := by decide
theorem dig0 : Lib.decDigits 0 = [48] := by simp [Lib.decDigits]
theorem dig1 : Lib.decDigits 1 = [49] := by simp [Lib.decDigits]
theorem dig2 : Lib.decDigits 2 = [50] := by simp [Lib.decDigits]
theorem dig3 : Lib.decDigits 3 = [51] := by simp [Lib.decDigits]
theorem dig5 : Lib.decDigits 5 = [53] := by simp [Lib.decDigits]
theorem dig7 : Lib.decDigits 7 = [55] := by simp [Lib.decDigits]
theorem dig45 : Lib.decDigits 45 = [52, 53] := by simp [Lib.decDigits]
theorem dig123 : Lib.decDigits 123 = [49, 50, 51] := by simp [Lib.decDigits]
theorem dig1960 : Lib.decDigits 1960 = [49, 57, 54, 48] := by simp [Lib.decDigits]
theorem dig50000 : Lib.decDigits 50000 = [53, 48, 48, 48, 48] := by simp [Lib.decDigits]
theorem m_5 : moneyL (-5) = [45, 48, 46, 48, 53] := by
  have e : moneyL (-5) = 45 :: (Lib.decDigits 0 ++ (46 :: pad 5 2)) := rfl
  rw [e, dig0]
  unfold pad
  rw [dig5]
  rfl
theorem m12345 : moneyL 12345 = [49, 50, 51, 46, 52, 53] := by
  have e : moneyL 12345 = Lib.decDigits 123 ++ (46 :: pad 45 2) := rfl
  rw [e, dig123]
  unfold pad
  rw [dig45]
  rfl
theorem m2 : moneyL 2 = [48, 46, 48, 50] := by
  have e : moneyL 2 = Lib.decDigits 0 ++ (46 :: pad 2 2) := rfl
  rw [e, dig0]
  unfold pad
  rw [dig2]
  rfl
theorem m0 : moneyL 0 = [48, 46, 48, 48] := by
  have e : moneyL 0 = Lib.decDigits 0 ++ (46 :: pad 0 2) := rfl
  rw [e]
  unfold pad
  rw [dig0]
  rfl
theorem m500 : moneyL 500 = [53, 46, 48, 48] := by
  have e : moneyL 500 = Lib.decDigits 5 ++ (46 :: pad 0 2) := rfl
  rw [e, dig5]
  unfold pad
  rw [dig0]
  rfl
theorem day0 : dayL 0 = [49, 57, 54, 48, 45, 48, 49, 45, 48, 49] := by
  rw [dayL_at (k := 0) (by decide) (by decide)]
  have e : dayT (1960 + 0 / 12) (1 + 0 % 12) ((0 : Int) - S 0 + 1).toNat = cat (cat (cat (cat (pad 1960 4) [45]) (pad 1 2)) [45]) (pad 1 2) := rfl
  rw [e]
  unfold pad
  rw [dig1960, dig1]
  rfl
theorem day60 : dayL 60 = [49, 57, 54, 48, 45, 48, 51, 45, 48, 49] := by
  rw [dayL_at (k := 2) (by decide) (by decide)]
  have e : dayT (1960 + 2 / 12) (1 + 2 % 12) ((60 : Int) - S 2 + 1).toNat = cat (cat (cat (cat (pad 1960 4) [45]) (pad 3 2)) [45]) (pad 1 2) := rfl
  rw [e]
  unfold pad
  rw [dig1960, dig1, dig3]
  rfl
theorem day_1 : dayL (-1) = [45] := dayL_none (by decide)
theorem itoa3 : Lib.itoa 3 = [51] := dig3
theorem itoa7 : Lib.itoa 7 = [55] := dig7
theorem itoa2 : Lib.itoa 2 = [50] := dig2
theorem itoa50000 : Lib.itoa 50000 = [53, 48, 48, 48, 48] := by
  unfold Lib.itoa
  rw [if_neg (by decide), show (50000 : Int).toNat = 50000 from by simp]
  exact dig50000
theorem loan0 : loanL l0 = [108, 111, 97, 110, 32, 51, 32, 114, 101, 112, 97, 121, 32, 111, 112, 101, 110, 32, 53, 48, 48, 48, 48, 32, 49, 50, 51, 46, 52, 53, 32, 48, 46, 48, 50, 32, 48, 46, 48, 48, 32, 55] := by
  have e : loanL l0 = Lib.join [[108, 111, 97, 110], Lib.itoa 3, wordL statusW 5, wordL closedW 0, Lib.itoa 50000, moneyL 12345, moneyL 2, moneyL 0, Lib.itoa 7] sp := rfl
  rw [e, itoa3, itoa50000, m12345, m2, m0, itoa7]
  rfl
theorem bill0 : billL 2 500 0 60 = [98, 105, 108, 108, 32, 50, 32, 53, 46, 48, 48, 32, 48, 46, 48, 48, 32, 49, 57, 54, 48, 45, 48, 51, 45, 48, 49] := by
  have e : billL 2 500 0 60 = Lib.join [[98, 105, 108, 108], Lib.itoa 2, moneyL 500, moneyL 0, dayL 60] sp := rfl
  rw [e, itoa2, m500, m0, day60]
  rfl
set_option maxRecDepth 20000 in
set_option maxHeartbeats 8000000 in
theorem wakes_calls (w : World) (htab : Tab w) : Calls Tryd.prog 14 #[] w fun e w' => e = .returned (.bool true) ∧ Below w.heap.size w w' := by
  have HX0 := Lib.hid (Blk.new w 23 l0.cells)
  have hb0 := (Below.refl w.heap.size w).alloc (Nat.le_refl _) (.cells l0.cells 23)
  have HB0 := Lib.hid hb0
  have HT0 := Lib.hid (htab.below hb0)
  clear hb0 htab
  go_enter Tryd.func14, Tryd.ntmps14
  go_upto_region 2 with fail
  generalize w.alloc (.cells l0.cells 23) = w1 at *
  have k0 : w1.cell? ⟨w.heap.size, 0, none⟩ = some (.int .i64 3) := HX0.out.cell 0
  have k1 : w1.cell? ⟨w.heap.size, 1, none⟩ = some (.int .i64 12345) := HX0.out.cell 1
  have k2 : w1.cell? ⟨w.heap.size, 2, none⟩ = some (.int .i64 2500000) := HX0.out.cell 2
  have k3 : w1.cell? ⟨w.heap.size, 3, none⟩ = some (.int .i64 0) := HX0.out.cell 3
  have k4 : w1.cell? ⟨w.heap.size, 4, none⟩ = some (.int .i64 0) := HX0.out.cell 4
  have k5 : w1.cell? ⟨w.heap.size, 5, none⟩ = some (.int .i64 50000) := HX0.out.cell 5
  have k6 : w1.cell? ⟨w.heap.size, 6, none⟩ = some (.bool false) := HX0.out.cell 6
  have k7 : w1.cell? ⟨w.heap.size, 7, none⟩ = some (.int .i64 5) := HX0.out.cell 7
  have k8 : w1.cell? ⟨w.heap.size, 8, none⟩ = some (.int .i64 0) := HX0.out.cell 8
  have k9 : w1.cell? ⟨w.heap.size, 9, none⟩ = some (.int .i64 0) := HX0.out.cell 9
  have k10 : w1.cell? ⟨w.heap.size, 10, none⟩ = some (.int .i64 0) := HX0.out.cell 10
  have k11 : w1.cell? ⟨w.heap.size, 11, none⟩ = some (.int .i64 0) := HX0.out.cell 11
  have k12 : w1.cell? ⟨w.heap.size, 12, none⟩ = some (.int .i64 7) := HX0.out.cell 12
  have HX1 := Lib.hid (Blk.new w1 23 l0.cells)
  have hal := (Below.refl w1.heap.size w1).alloc (Nat.le_refl _) (.cells l0.cells 23)
  have HX := Lib.hid (HX0.out.below hal)
  have HB1 := Lib.hid (HB0.out.trans (hal.mono HB0.out.size))
  have HT1 := Lib.hid (HT0.out.below hal)
  clear hal
  have HOw : Hid (Calls Tryd.prog 19 #[.agg #[.int .i64 0, .slice (some ⟨w1.heap.size, 0, none⟩) 1 1, .int .i64 0, .int .i64 0, .int .i64 0, .int .i64 0, .slice none 0 0, .int .i64 0, .int .i64 0, .int .i64 0, .int .i64 0, .int .i64 0, .int .i64 0]] (w1.alloc (.cells l0.cells 23)) fun e w' => e = .returned (.tuple #[.int .i64 12347, .int .i64 0]) ∧ Below (w1.alloc (.cells l0.cells 23)).heap.size (w1.alloc (.cells l0.cells 23)) w') := Lib.hid (vowes_ok [l0] [12347] rfl (by
      intro i l hl
      match i, hl with
      | 0, hl =>
        simp at hl
        subst hl
        exact ⟨l0_ok, l0_good, 12347, rfl, l0_owes⟩
      | i + 1, hl => simp at hl) w1.heap.size 0 1 (.int .i64 0) (.int .i64 0) (.int .i64 0) (.int .i64 0) (.int .i64 0) (.slice none 0 0) (.int .i64 0) (.int .i64 0) (.int .i64 0) (.int .i64 0) (.int .i64 0) (.int .i64 0) (w1.alloc (.cells l0.cells 23)) (by decide) (by decide) (by decide) HX1.out.lt (by
      intro i l hl j hj
      match i, hl with
      | 0, hl =>
        simp at hl
        subst hl
        rw [show 0 + 0 * 13 + j = j by omega]
        exact HX1.out.cell j
      | i + 1, hl => simp at hl))
  go_wp2_with fail
  refine HOw.out.mono ?_
  rintro e w2 ⟨rfl, hb2⟩
  have HX2 := Lib.hid (HX.out.below hb2)
  have HB2 := Lib.hid (HB1.out.trans (hb2.mono HB1.out.size))
  have HT2 := Lib.hid (HT1.out.below hb2)
  clear hb2 k0 k1 k2 k3 k4 k5 k6 k7 k8 k9 k10 k11 k12 HX0 HX1 HX HOw HB0 HT0 HB1 HT1
  have HM := Lib.hid (fun W (hW : Tab W) => vmoney_calls (-5) (by decide) (by decide) W hW)
  have HD0 := Lib.hid (fun W (hW : Tab W) => vday_calls 0 W hW)
  have HD1 := Lib.hid (fun W (hW : Tab W) => vday_calls (-1) W hW)
  have HL := Lib.hid (fun W (hW : Tab W) => vloan_calls l0 l0_ok W hW)
  have HBi := Lib.hid (fun W (hW : Tab W) => vbill_calls 2 500 0 60 (.int .i64 0) (.slice none 0 0) (by decide) (by decide) (by decide) W hW)
  rw [m_5] at HM
  rw [day0] at HD0
  rw [day_1] at HD1
  rw [loan0] at HL
  rw [bill0] at HBi
  go_upto_region 3 with fail
  go_wp2_with fail
  refine (HM.out _ HT2.out).mono ?_
  rintro e w3 ⟨rfl, hb3⟩
  have HX3 := Lib.hid (HX2.out.below hb3)
  have HB3 := Lib.hid (HB2.out.trans (hb3.mono HB2.out.size))
  have HT3 := Lib.hid (HT2.out.below hb3)
  clear hb3
  go_wp2_with fail
  refine (HD0.out _ HT3.out).mono ?_
  rintro e w4 ⟨rfl, hb3⟩
  have HX4 := Lib.hid (HX3.out.below hb3)
  have HB4 := Lib.hid (HB3.out.trans (hb3.mono HB3.out.size))
  have HT4 := Lib.hid (HT3.out.below hb3)
  clear hb3
  go_wp2_with fail
  refine (HD1.out _ HT4.out).mono ?_
  rintro e w5 ⟨rfl, hb3⟩
  have HX5 := Lib.hid (HX4.out.below hb3)
  have HB5 := Lib.hid (HB4.out.trans (hb3.mono HB4.out.size))
  have HT5 := Lib.hid (HT4.out.below hb3)
  clear hb3
  have k0 : w5.cell? ⟨w.heap.size, 0, none⟩ = some (.int .i64 3) := HX5.out.cell 0
  have k1 : w5.cell? ⟨w.heap.size, 1, none⟩ = some (.int .i64 12345) := HX5.out.cell 1
  have k2 : w5.cell? ⟨w.heap.size, 2, none⟩ = some (.int .i64 2500000) := HX5.out.cell 2
  have k3 : w5.cell? ⟨w.heap.size, 3, none⟩ = some (.int .i64 0) := HX5.out.cell 3
  have k4 : w5.cell? ⟨w.heap.size, 4, none⟩ = some (.int .i64 0) := HX5.out.cell 4
  have k5 : w5.cell? ⟨w.heap.size, 5, none⟩ = some (.int .i64 50000) := HX5.out.cell 5
  have k6 : w5.cell? ⟨w.heap.size, 6, none⟩ = some (.bool false) := HX5.out.cell 6
  have k7 : w5.cell? ⟨w.heap.size, 7, none⟩ = some (.int .i64 5) := HX5.out.cell 7
  have k8 : w5.cell? ⟨w.heap.size, 8, none⟩ = some (.int .i64 0) := HX5.out.cell 8
  have k9 : w5.cell? ⟨w.heap.size, 9, none⟩ = some (.int .i64 0) := HX5.out.cell 9
  have k10 : w5.cell? ⟨w.heap.size, 10, none⟩ = some (.int .i64 0) := HX5.out.cell 10
  have k11 : w5.cell? ⟨w.heap.size, 11, none⟩ = some (.int .i64 0) := HX5.out.cell 11
  have k12 : w5.cell? ⟨w.heap.size, 12, none⟩ = some (.int .i64 7) := HX5.out.cell 12
  go_wp2_with fail
  refine (HL.out _ HT5.out).mono ?_
  rintro e w6 ⟨rfl, hb3⟩
  have HB6 := Lib.hid (HB5.out.trans (hb3.mono HB5.out.size))
  have HT6 := Lib.hid (HT5.out.below hb3)
  clear hb3 k0 k1 k2 k3 k4 k5 k6 k7 k8 k9 k10 k11 k12
  go_wp2_with fail
  refine (HBi.out _ HT6.out).mono ?_
  rintro e w7 ⟨rfl, hb3⟩
  have HB7 := Lib.hid (HB6.out.trans (hb3.mono HB6.out.size))
  clear hb3
  go_wp2_with fail
  go_ret
  exact ⟨rfl, HB7.out⟩
end Go.Proofs.YtkifkjgkdfnhcaaDoor.Vw
